/- Buffers of uint32: played, and their sums: the walks. -/
import Derived.Test.YtklbmgfpnafdlaaJitG
import Derived.Test.YtklbmgfpnafdlaaJitBU
namespace Go.Proofs.Ytklbmgfpnafdlaa
open Go Go.RowKit

theorem sumsU_any (b m : Nat) (B : Jb) (w : World) (hw : OK w (fpL (jb 97 b m B)) (jb 97 b m B) w) : Fn Try.prog 23 [.pointer (some ⟨b, 0, none⟩)] (jb 97 b m B) w (fun _ : Unit => True) (fun _ => .agg B.sums.toArray) (fun _ => jb 97 b m B) := by
  unfold jb at hw ⊢
  refine enterF Try.func23 rfl Try.ntmps23 rfl hw ?_
  refine WC.seq ?_
  refine WC.region ?_
  refine WL.to (To.alloc (cs := List.replicate 6 (.int .u64 0)) zr66 rfl) rfl ?_ -- t2
  intro b2
  refine WL.nil ?_
  refine WC.seq ?_
  refine WC.seq ?_
  refine WC.region ?_
  refine WL.y (Yl.move rfl) rfl ?_ -- t3
  refine WL.y (Yl.nilEq un25 rfl rfl) rfl ?_ -- t4
  refine WL.know (t := 4) (b' := false) rfl (by first | rfl | (simp; done) | (simp; omega)) ?_
  refine WL.nil ?_
  refine WC.condF rfl (by first | rfl | (simp; done) | (simp; omega)) ?_
  refine WC.skip ?_
  refine WC.seq ?_
  refine WC.region ?_
  refine WL.y (Yl.move rfl) rfl ?_ -- t6
  refine WL.y (Yl.nilCheck rfl) rfl ?_ -- t7
  refine WL.y (Yl.field fo97_8 rfl) rfl ?_ -- t8
  refine WL.y (Yl.loadN ag66 rfl (by repeat (first | exact Take1.head | apply Take1.tail)) (by rfl) (show ((B.cells m).drop 8).take 6 = B.sums from rfl)) rfl ?_ -- t9
  refine WL.sto (Sto.agg sz66 rfl rfl (by repeat (first | exact Take1.head | apply Take1.tail)) (fun v hv => by simp [Jb.sums] at hv; rcases hv with rfl | rfl | rfl | rfl | rfl | rfl <;> rfl) rfl (by rfl) (show _ = B.sums from rfl)) (fun _ h => nomatch h) ?_ -- st 2
  refine WL.nil ?_
  refine WC.ret ?_
  repeat (first | (with_reducible refine peelT ?_) | (with_reducible refine peelB ?_) | (with_reducible refine peelTX ?_) | (with_reducible refine peelBX ?_) | (with_reducible refine peelBN ?_) | (with_reducible refine peelBO rfl ?_))
  exact retC1 (cs := B.sums) (.inr rfl) Try.results23 ag66 rfl (by repeat (first | exact Take1.head | apply Take1.tail)) rfl fun w' h => ⟨(), trivial, rfl, h.sub (by repeat (first | exact TakeL.nil | (apply TakeL.cons; · repeat (first | exact Take1.head | apply Take1.tail))))⟩

set_option maxRecDepth 100000 in
theorem play1U_iter (b2 b3 b m : Nat) (now : Int) {g : Nat → Jb} {K : Nat} {x : Nat → Value} {ct : Nat → Int} {lo : Nat → Bool} {cnt pos : Nat → Nat} {ys : List (Array Value)} (hS : PlayS now (.int .u32 0) g K x ct lo cnt pos ys) :
    IterW Try.prog 58 ([.pointer (some ⟨b2, 0, none⟩), .pointer (some ⟨b3, 0, none⟩)] : List Value).toArray (plR 25 97 22 b2 b3 b m now (g 0)) ys (plR 25 97 22 b2 b3 b m now (g K)) (fun i => plR 25 97 22 b2 b3 b m now (g (pos i + 1))) := by
  unfold plR
  refine iterW_of Try.func58 rfl Try.ntmps58 rfl ?_
  intro l W gs gx T0 hy
  refine WC.block ?_
  refine WC.loop (α := Nat × (Nat → Prop)) (fun _ => [(0, .func (.yield l) #[] #[]), (1, .pointer (some ⟨b2, 0, none⟩)), (2, .pointer (some ⟨b3, 0, none⟩))]) (fun p => [gstW gs (cnt p.1) p.2, blkR b2 25 [.pointer (some ⟨b, 0, none⟩)], blkR b3 22 [.int .u64 now], blkR b 97 ((g p.1).cells m), mapR (Value.int .u64) vI m (g p.1).m]) (fun p => p.1 ≤ K) (fun p => K - p.1) (0, T0) (Nat.zero_le _) ⟨(by repeat (first | exact Sub.nil | refine Sub.cons rfl ?_)), _, (by dsimp only; rw [hS.c0]; exact (by repeat (first | exact TakeL.nil | (apply TakeL.cons; · repeat (first | exact Take1.head | apply Take1.tail)))))⟩ ?_
  rintro ⟨k, T⟩ hk
  dsimp only at hk ⊢
  obtain ⟨gn, xx, cc, ll, hn, h1, h2⟩ := hS.all hk
  refine WC.block ?_
  refine WC.seq ?_
  refine WC.region ?_
  refine WL.y (Yl.load on25 rfl (by repeat (first | exact Take1.head | apply Take1.tail)) (by rfl)) rfl ?_ -- t9
  refine WL.y (Yl.load on22 rfl (by repeat (first | exact Take1.head | apply Take1.tail)) (by rfl)) rfl ?_ -- t10
  refine WL.callC (xs := [.tmp 9, .tmp 10]) (cap := []) rfl rfl en12 (by repeat (first | exact TakeL.nil | (apply TakeL.cons; · repeat (first | exact Take1.head | apply Take1.tail)))) (fun w hw => nextU_any b m (g k) now (hS.ok k hk) w hw.left.here) rfl ?_ -- t11 (*hailer/jitter.Buffer[uint32]).Next
  rintro ⟨⟩ -
  rw [hn]
  dsimp only [jb, List.cons_append, List.nil_append]
  refine WL.y (Yl.move rfl) rfl ?_ -- t8
  refine WL.y (Yl.extract rfl rfl) rfl ?_ -- t12
  refine WL.y (Yl.extract rfl rfl) rfl ?_ -- t13
  refine WL.y (Yl.extract rfl rfl) rfl ?_ -- t14
  refine WL.y (Yl.extract rfl rfl) rfl ?_ -- t15
  refine WL.y (Yl.assign rfl) rfl ?_ -- t4
  refine WL.y (Yl.assign rfl) rfl ?_ -- t5
  refine WL.y (Yl.assign rfl) rfl ?_ -- t6
  refine WL.y (Yl.assign rfl) rfl ?_ -- t7
  refine WL.nil ?_
  refine WC.seq ?_
  refine WC.region ?_
  refine WL.y (Yl.move rfl) rfl ?_ -- t16
  refine WL.y (Yl.not rfl) rfl ?_ -- t17
  refine WL.y (Yl.move rfl) rfl ?_ -- t18
  refine WL.both (t := 18) rfl (fun g18 => ?_) (fun g18 => ?_)
  · refine WL.off rfl rfl rfl rfl ?_ -- t19
    refine WL.off rfl rfl rfl rfl ?_ -- t20
    refine WL.off rfl rfl rfl rfl ?_ -- t21
    refine WL.offU rfl rfl rfl ?_ -- t22
    refine WL.offU rfl rfl rfl ?_ -- t23
    refine WL.offU rfl rfl rfl ?_ -- t24
    refine WL.offU rfl rfl rfl ?_ -- t25
    refine WL.offU rfl rfl rfl ?_ -- t26
    refine WL.off rfl rfl rfl rfl ?_ -- t27
    refine WL.y (Yl.pickT rfl rfl) rfl ?_ -- t28
    refine WL.know (t := 28) (b' := true) rfl (by first | rfl | (simp; done) | (simp; omega)) ?_
    refine WL.nil ?_
    refine WC.condT rfl (by first | rfl | (simp; done) | (simp; omega)) ?_
    refine WC.ret ?_
    repeat (first | (with_reducible refine peelT ?_) | (with_reducible refine peelB ?_) | (with_reducible refine peelTX ?_) | (with_reducible refine peelBX ?_) | (with_reducible refine peelBN ?_) | (with_reducible refine peelBO rfl ?_))
    have hkK : k = K := by
      have : ¬ k < K := by simpa using g18
      omega
    rw [h2 hkK, hkK, hS.cK]
    exact itEndW (.inr rfl) Try.results58 (by repeat (first | exact Take1.head | apply Take1.tail)) (by repeat (first | exact TakeL.nil | (apply TakeL.cons; · repeat (first | exact Take1.head | apply Take1.tail))))
  · refine WL.on rfl rfl ?_
    refine WL.y (Yl.move rfl) rfl ?_ -- t19
    refine WL.on rfl rfl ?_
    refine WL.y (Yl.not rfl) rfl ?_ -- t20
    refine WL.on rfl rfl ?_
    refine WL.y (Yl.move rfl) rfl ?_ -- t21
    refine WL.both (t := 21) rfl (fun g21 => ?_) (fun g21 => ?_)
    · refine WL.on rfl rfl ?_
      have hlt : k < K := by simpa using g18
      obtain ⟨e1, e2, e3, e4⟩ := h1 hlt
      obtain ⟨y1, y2, y3⟩ := hS.y k hlt (by rw [← e4]; simpa using g21)
      refine WL.y (Yl.move rfl) rfl ?_ -- t22
      refine WL.on rfl rfl ?_
      refine WL.y (Yl.move rfl) rfl ?_ -- t23
      refine WL.on rfl rfl ?_
      refine WL.y (Yl.move rfl) rfl ?_ -- t24
      refine WL.on rfl rfl ?_
      refine WL.yieldW (xs := [.tmp 23, .tmp 24]) (i := cnt k) hy rfl rfl (by rw [e2, e3]; exact y2) (by repeat (first | exact Take1.head | apply Take1.tail)) rfl ?_
      intro b25 T'
      refine WL.on rfl rfl ?_
      refine WL.y (Yl.not rfl) rfl ?_ -- t26
      refine WL.on rfl rfl ?_
      refine WL.y (Yl.pickT rfl rfl) rfl ?_ -- t27
      refine WL.y (Yl.pickF rfl rfl) rfl ?_ -- t28
      refine WL.nil ?_
      refine WC.cond rfl (fun g28 => ?_) (fun g28 => ?_)
      · refine WC.ret ?_
        repeat (first | (with_reducible refine peelT ?_) | (with_reducible refine peelB ?_) | (with_reducible refine peelTX ?_) | (with_reducible refine peelBX ?_) | (with_reducible refine peelBN ?_) | (with_reducible refine peelBO rfl ?_))
        have hb : b25 = false := by simpa using g28
        subst hb
        simp only [Bool.false_eq_true, if_false]
        rw [e1]
        exact itStopW (i := cnt k) (.inr rfl) Try.results58 (by repeat (first | exact Take1.head | apply Take1.tail)) y1 (by rw [y3]; exact (by repeat (first | exact TakeL.nil | (apply TakeL.cons; · repeat (first | exact Take1.head | apply Take1.tail)))))
      · refine WC.skip ?_
        have hb : b25 = true := by simpa using g28
        subst hb
        simp only [if_true]
        have ec := hS.cs k hlt
        rw [show lo k = false by rw [← e4]; simpa using g21] at ec
        exact ⟨rfl, (k + 1, T'), by dsimp only; omega, by dsimp only; omega, (by repeat (first | exact Sub.nil | refine Sub.cons rfl ?_)), _, by dsimp only; rw [ec, e1]; exact (by repeat (first | exact TakeL.nil | (apply TakeL.cons; · repeat (first | exact Take1.head | apply Take1.tail))))⟩
    · refine WL.off rfl rfl rfl rfl ?_ -- t22
      refine WL.off rfl rfl rfl rfl ?_ -- t23
      refine WL.off rfl rfl rfl rfl ?_ -- t24
      refine WL.off rfl rfl rfl rfl ?_ -- t25
      refine WL.off rfl rfl rfl rfl ?_ -- t26
      refine WL.on rfl rfl ?_
      refine WL.y (Yl.pickF rfl rfl) rfl ?_ -- t27
      refine WL.know (t := 27) (b' := false) rfl (by first | rfl | (simp; done) | (simp; omega)) ?_
      refine WL.y (Yl.pickF rfl rfl) rfl ?_ -- t28
      refine WL.know (t := 28) (b' := false) rfl (by first | rfl | (simp; done) | (simp; omega)) ?_
      refine WL.nil ?_
      refine WC.condF rfl (by first | rfl | (simp; done) | (simp; omega)) ?_
      refine WC.skip ?_
      have hlt : k < K := by simpa using g18
      obtain ⟨e1, e2, e3, e4⟩ := h1 hlt
      have ec := hS.cs k hlt
      rw [show lo k = true by rw [← e4]; simpa using g21] at ec
      exact ⟨rfl, (k + 1, T), by dsimp only; omega, by dsimp only; omega, (by repeat (first | exact Sub.nil | refine Sub.cons rfl ?_)), _, by dsimp only; rw [ec, e1]; exact (by repeat (first | exact TakeL.nil | (apply TakeL.cons; · repeat (first | exact Take1.head | apply Take1.tail))))⟩
theorem playU_any (b : Nat) (now : Int) (w : World) (hw : OK w (fpL []) [] w) :
    Fn Try.prog 41 [.pointer (some ⟨b, 0, none⟩), .int .u64 now] [] w (fun _ : Nat × Nat => True) (fun y => .func (.func 58) #[] #[.pointer (some ⟨y.1, 0, none⟩), .pointer (some ⟨y.2, 0, none⟩)]) (fun y => [blkR y.1 25 [.pointer (some ⟨b, 0, none⟩)], blkR y.2 22 [.int .u64 now]]) := by
  refine enterF Try.func41 rfl Try.ntmps41 rfl hw ?_
  refine WC.seq ?_
  refine WC.region ?_
  refine WL.to (To.box (cs := [.pointer (some ⟨b, 0, none⟩)]) rfl rfl) rfl ?_ -- t2
  intro b2
  refine WL.to (To.box (cs := [.int .u64 now]) rfl rfl) rfl ?_ -- t3
  intro b3
  refine WL.y (Yl.assign rfl) rfl ?_ -- t4
  refine WL.nil ?_
  refine WC.seq ?_
  refine WC.region ?_
  refine WL.y (Yl.makeFunc (xs := []) (ys := [.tmp 2, .tmp 3]) rfl rfl) rfl ?_ -- t5
  refine WL.y (Yl.assign rfl) rfl ?_ -- t4
  refine WL.nil ?_
  refine WC.ret ?_
  repeat (first | (with_reducible refine peelT ?_) | (with_reducible refine peelB ?_) | (with_reducible refine peelTX ?_) | (with_reducible refine peelBX ?_) | (with_reducible refine peelBN ?_) | (with_reducible refine peelBO rfl ?_))
  exact ret1 (.inr rfl) Try.results41 rfl fun w' h => ⟨(b2, b3), trivial, rfl, h.sub (by repeat (first | exact TakeL.nil | (apply TakeL.cons; · repeat (first | exact Take1.head | apply Take1.tail))))⟩
end Go.Proofs.Ytklbmgfpnafdlaa
