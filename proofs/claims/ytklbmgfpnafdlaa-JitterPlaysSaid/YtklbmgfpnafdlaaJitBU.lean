/- Buffers of uint32: the walks. -/
import Derived.Test.YtklbmgfpnafdlaaJitC
namespace Go.Proofs.Ytklbmgfpnafdlaa
open Go Go.RowKit

theorem newU_any (d s : Int) (hd : 0 ≤ d ∧ d ≤ 4294967296) (hs : 0 < s ∧ s ≤ 4294967296) (w : World) (hw : OK w (fpL []) [] w) :
    Fn Try.prog 8 [.int .u64 d, .int .u64 s] [] w (fun _ : Nat × Nat => True) (fun y => .tuple #[.pointer (some ⟨y.1, 0, none⟩), .int .i64 0]) (fun y => jb 97 y.1 y.2 (Jb.init d s)) := by
  refine enterF Try.func8 rfl Try.ntmps8 rfl hw ?_
  refine WC.seq ?_
  refine WC.region ?_
  refine WL.y (Yl.assign rfl) rfl ?_ -- t4
  refine WL.y (Yl.assign rfl) rfl ?_ -- t5
  refine WL.nil ?_
  refine WC.seq ?_
  refine WC.seq ?_
  refine WC.region ?_
  refine WL.y (Yl.move rfl) rfl ?_ -- t6
  refine WL.y (Yl.gtr rfl rfl) rfl ?_ -- t7
  refine WL.know (t := 7) (b' := false) rfl (decide_eq_false (by omega)) ?_
  refine WL.y (Yl.move rfl) rfl ?_ -- t8
  refine WL.on rfl rfl ?_
  refine WL.y (Yl.move rfl) rfl ?_ -- t9
  refine WL.on rfl rfl ?_
  refine WL.y (Yl.eql rfl rfl) rfl ?_ -- t10
  refine WL.know (t := 10) (b' := false) rfl (decide_eq_false (by omega)) ?_
  refine WL.y (Yl.pickF rfl rfl) rfl ?_ -- t11
  refine WL.y (Yl.move rfl) rfl ?_ -- t12
  refine WL.on rfl rfl ?_
  refine WL.y (Yl.move rfl) rfl ?_ -- t13
  refine WL.on rfl rfl ?_
  refine WL.y (Yl.gtr rfl rfl) rfl ?_ -- t14
  refine WL.know (t := 14) (b' := false) rfl (decide_eq_false (by omega)) ?_
  refine WL.y (Yl.pickF rfl rfl) rfl ?_ -- t15
  refine WL.know (t := 15) (b' := false) rfl (by first | rfl | (simp; done) | (simp; omega)) ?_
  refine WL.nil ?_
  refine WC.condF rfl (by first | rfl | (simp; done) | (simp; omega)) ?_
  refine WC.skip ?_
  refine WC.seq ?_
  refine WC.region ?_
  refine WL.y (Yl.move rfl) rfl ?_ -- t16
  refine WL.y (Yl.move rfl) rfl ?_ -- t17
  refine WL.to (To.makeMap (Value.int .u64) vI) rfl ?_ -- t18
  intro b18
  refine WL.y (Yl.build rfl (cs := (Jb.init d s).cells b18) (fun _ => by kernel_rfl)) rfl ?_ -- t19
  refine WL.to (To.box (cs := (Jb.init d s).cells b18) rfl rfl) rfl ?_ -- t20
  intro b20
  refine WL.y (Yl.assign rfl) rfl ?_ -- t4
  refine WL.y (Yl.assign rfl) rfl ?_ -- t5
  refine WL.nil ?_
  refine WC.ret ?_
  repeat (first | (with_reducible refine peelT ?_) | (with_reducible refine peelB ?_) | (with_reducible refine peelTX ?_) | (with_reducible refine peelBX ?_) | (with_reducible refine peelBN ?_) | (with_reducible refine peelBO rfl ?_))
  exact ret2 (.inr rfl) Try.results8 rfl rfl fun w' h => ⟨(b20, b18), trivial, rfl, h.sub (by repeat (first | exact TakeL.nil | (apply TakeL.cons; · repeat (first | exact Take1.head | apply Take1.tail))))⟩

theorem dueU_any (b m : Nat) (B : Jb) (ctr : Int) (hB : B.ok) (hc : U6 ctr) (w : World) (hw : OK w (fpL (jb 97 b m B)) (jb 97 b m B) w) :
    Fn Try.prog 47 [.pointer (some ⟨b, 0, none⟩), .int .u64 ctr] (jb 97 b m B) w (fun _ : Unit => True) (fun _ => .int .u64 (B.due ctr)) (fun _ => jb 97 b m B) := by
  unfold jb at hw ⊢
  have hsp := due_split (B := B) ctr hB.s
  have hnn : 0 ≤ wr (ctr - B.fi) * B.s := Int.mul_nonneg (wr_u _).1 hB.s.1
  refine enterF Try.func47 rfl Try.ntmps47 rfl hw ?_
  refine WC.seq ?_
  refine WC.region ?_
  refine WL.y (Yl.assign rfl) rfl ?_ -- t4
  refine WL.nil ?_
  refine WC.seq ?_
  refine WC.drawAny (Hs := [blkR b 97 (B.cells m), mapR (Value.int .u64) vI m B.m]) mixed (by kernel_rfl) ⟨_, (by repeat (first | exact TakeL.nil | (apply TakeL.cons; · repeat (first | exact Take1.head | apply Take1.tail))))⟩ ?_
  refine WD.take 0 rfl (by kernel_rfl) (by kernel_rfl) (by kernel_rfl) rfl rfl (Yl.move rfl) rfl ?_ -- t8
  refine WD.take 1 rfl (by kernel_rfl) (by kernel_rfl) (by kernel_rfl) rfl rfl (Yl.move rfl) rfl ?_ -- t9
  refine WD.take 2 rfl (by kernel_rfl) (by kernel_rfl) (by kernel_rfl) rfl rfl (Yl.nilCheck rfl) rfl ?_ -- t10
  refine WD.take 3 rfl (by kernel_rfl) (by kernel_rfl) (by kernel_rfl) rfl rfl (Yl.field fo97_4 rfl) rfl ?_ -- t11
  refine WD.take 4 rfl (by kernel_rfl) (by kernel_rfl) (by kernel_rfl) rfl rfl (Yl.load on22 rfl (by repeat (first | exact Take1.head | apply Take1.tail)) (by rfl)) rfl ?_ -- t12
  refine WD.take 5 rfl (by kernel_rfl) (by kernel_rfl) (by kernel_rfl) rfl rfl (Yl.sub rfl rfl rfl) rfl ?_ -- t13
  refine WD.say (t := 13) (v' := .int .u64 (wr (ctr - B.fi))) rfl (by rfl) ?_
  refine WD.take 6 rfl (by kernel_rfl) (by kernel_rfl) (by kernel_rfl) rfl rfl (Yl.move rfl) rfl ?_ -- t14
  refine WD.take 7 rfl (by kernel_rfl) (by kernel_rfl) (by kernel_rfl) rfl rfl (Yl.nilCheck rfl) rfl ?_ -- t15
  refine WD.take 8 rfl (by kernel_rfl) (by kernel_rfl) (by kernel_rfl) rfl rfl (Yl.field fo97_1 rfl) rfl ?_ -- t16
  refine WD.take 9 rfl (by kernel_rfl) (by kernel_rfl) (by kernel_rfl) rfl rfl (Yl.load on22 rfl (by repeat (first | exact Take1.head | apply Take1.tail)) (by rfl)) rfl ?_ -- t17
  refine WD.one 10 (by kernel_rfl) ?_
  refine WO.callC (xs := [.tmp 13, .tmp 17]) (cap := []) rfl .no rfl rfl en64 (by repeat (first | exact TakeL.nil | (apply TakeL.cons; · repeat (first | exact Take1.head | apply Take1.tail)))) (fun w hw => mulI_any (wr (ctr - B.fi)) B.s (wr_u _) hB.s w hw.left.here) rfl (fun _ => ⟨_, (by repeat (first | exact TakeL.nil | (apply TakeL.cons; · repeat (first | exact Take1.head | apply Take1.tail))))⟩) ?_ -- t18 math/bits.Mul64
  rintro ⟨⟩ -
  refine WD.take 11 rfl (by kernel_rfl) (by kernel_rfl) (by kernel_rfl) rfl rfl (Yl.move rfl) rfl ?_ -- t7
  refine WD.take 12 rfl (by kernel_rfl) (by kernel_rfl) (by kernel_rfl) rfl rfl (Yl.extract rfl rfl) rfl ?_ -- t19
  refine WD.take 13 rfl (by kernel_rfl) (by kernel_rfl) (by kernel_rfl) rfl rfl (Yl.extract rfl rfl) rfl ?_ -- t20
  refine WD.take 14 rfl (by kernel_rfl) (by kernel_rfl) (by kernel_rfl) rfl rfl (Yl.assign rfl) rfl ?_ -- t5
  refine WD.take 15 rfl (by kernel_rfl) (by kernel_rfl) (by kernel_rfl) rfl rfl (Yl.assign rfl) rfl ?_ -- t6
  refine WD.done (by kernel_rfl) ?_
  refine WC.seq ?_
  refine WC.seq ?_
  refine WC.region ?_
  refine WL.y (Yl.move rfl) rfl ?_ -- t21
  refine WL.y (Yl.gtr rfl rfl) rfl ?_ -- t22
  refine WL.nil ?_
  refine WC.cond rfl (fun g22 => ?_) (fun g22 => ?_)
  · refine WC.seq ?_
    refine WC.region ?_
    refine WL.y (Yl.assign rfl) rfl ?_ -- t4
    refine WL.nil ?_
    refine WC.ret ?_
    repeat (first | (with_reducible refine peelT ?_) | (with_reducible refine peelB ?_) | (with_reducible refine peelTX ?_) | (with_reducible refine peelBX ?_) | (with_reducible refine peelBN ?_) | (with_reducible refine peelBO rfl ?_))
    have h1 : 18446744073709551616 ≤ wr (ctr - B.fi) * B.s := by rw [← hsp]; simpa using g22
    exact ret1 (.inr rfl) Try.results47 rfl fun w' h => ⟨(), trivial, by unfold Jb.due; rw [if_pos h1], h.sub (by repeat (first | exact TakeL.nil | (apply TakeL.cons; · repeat (first | exact Take1.head | apply Take1.tail))))⟩
  · refine WC.skip ?_
    refine WC.seq ?_
    have h1 : ¬ 18446744073709551616 ≤ wr (ctr - B.fi) * B.s := by rw [← hsp]; simpa using g22
    rw [show wr (ctr - B.fi) * B.s % 18446744073709551616 = wr (ctr - B.fi) * B.s from Int.emod_eq_of_lt hnn (by omega)]
    refine WC.drawAny (Hs := [blkR b 97 (B.cells m), mapR (Value.int .u64) vI m B.m]) mixed (by kernel_rfl) ⟨_, (by repeat (first | exact TakeL.nil | (apply TakeL.cons; · repeat (first | exact Take1.head | apply Take1.tail))))⟩ ?_
    refine WD.take 0 rfl (by kernel_rfl) (by kernel_rfl) (by kernel_rfl) rfl rfl (Yl.move rfl) rfl ?_ -- t23
    refine WD.take 1 rfl (by kernel_rfl) (by kernel_rfl) (by kernel_rfl) rfl rfl (Yl.nilCheck rfl) rfl ?_ -- t24
    refine WD.take 2 rfl (by kernel_rfl) (by kernel_rfl) (by kernel_rfl) rfl rfl (Yl.field fo97_5 rfl) rfl ?_ -- t25
    refine WD.take 3 rfl (by kernel_rfl) (by kernel_rfl) (by kernel_rfl) rfl rfl (Yl.load on22 rfl (by repeat (first | exact Take1.head | apply Take1.tail)) (by rfl)) rfl ?_ -- t26
    refine WD.take 4 rfl (by kernel_rfl) (by kernel_rfl) (by kernel_rfl) rfl rfl (Yl.move rfl) rfl ?_ -- t27
    refine WD.take 5 rfl (by kernel_rfl) (by kernel_rfl) (by kernel_rfl) rfl rfl (Yl.nilCheck rfl) rfl ?_ -- t28
    refine WD.take 6 rfl (by kernel_rfl) (by kernel_rfl) (by kernel_rfl) rfl rfl (Yl.field fo97_0 rfl) rfl ?_ -- t29
    refine WD.take 7 rfl (by kernel_rfl) (by kernel_rfl) (by kernel_rfl) rfl rfl (Yl.load on22 rfl (by repeat (first | exact Take1.head | apply Take1.tail)) (by rfl)) rfl ?_ -- t30
    refine WD.take 9 rfl (by kernel_rfl) (by kernel_rfl) (by kernel_rfl) rfl rfl (Yl.move rfl) rfl ?_ -- t32
    refine WD.one 8 (by kernel_rfl) ?_
    refine WO.callC (xs := [.tmp 26, .tmp 30]) (cap := []) rfl .no rfl rfl en65 (by repeat (first | exact TakeL.nil | (apply TakeL.cons; · repeat (first | exact Take1.head | apply Take1.tail)))) (fun w hw => plus_any B.tm B.d hB.tm hB.d w hw.left.here) rfl (fun _ => ⟨_, (by repeat (first | exact TakeL.nil | (apply TakeL.cons; · repeat (first | exact Take1.head | apply Take1.tail))))⟩) ?_ -- t31 hailer/jitter.plus
    rintro ⟨⟩ -
    refine WD.one 10 (by kernel_rfl) ?_
    refine WO.callC (xs := [.tmp 31, .tmp 32]) (cap := []) rfl .no rfl rfl en65 (by repeat (first | exact TakeL.nil | (apply TakeL.cons; · repeat (first | exact Take1.head | apply Take1.tail)))) (fun w hw => plus_any (plF B.tm B.d) (wr (ctr - B.fi) * B.s) (plF_u hB.tm hB.d) ⟨hnn, by omega⟩ w hw.left.here) rfl (fun _ => ⟨_, (by repeat (first | exact TakeL.nil | (apply TakeL.cons; · repeat (first | exact Take1.head | apply Take1.tail))))⟩) ?_ -- t33 hailer/jitter.plus
    rintro ⟨⟩ -
    refine WD.take 11 rfl (by kernel_rfl) (by kernel_rfl) (by kernel_rfl) rfl rfl (Yl.assign rfl) rfl ?_ -- t4
    refine WD.done (by kernel_rfl) ?_
    refine WC.ret ?_
    repeat (first | (with_reducible refine peelT ?_) | (with_reducible refine peelB ?_) | (with_reducible refine peelTX ?_) | (with_reducible refine peelBX ?_) | (with_reducible refine peelBN ?_) | (with_reducible refine peelBO rfl ?_))
    exact ret1 (.inr rfl) Try.results47 rfl fun w' h => ⟨(), trivial, by unfold Jb.due; rw [if_neg h1], h.sub (by repeat (first | exact TakeL.nil | (apply TakeL.cons; · repeat (first | exact Take1.head | apply Take1.tail))))⟩

theorem dueFU_any (b m : Nat) (B : Jb) (hB : B.ok) (w : World) (hw : OK w (fpL (jb 97 b m B)) (jb 97 b m B) w) :
    Fn Try.prog 16 [.pointer (some ⟨b, 0, none⟩)] (jb 97 b m B) w (fun _ : Unit => True) (fun _ => .tuple #[.int .u64 (if B.m.isEmpty then 0 else B.due B.nx), .bool (!B.m.isEmpty)]) (fun _ => jb 97 b m B) := by
  unfold jb at hw ⊢
  refine enterF Try.func16 rfl Try.ntmps16 rfl hw ?_
  refine WC.seq ?_
  refine WC.region ?_
  refine WL.y (Yl.assign rfl) rfl ?_ -- t2
  refine WL.y (Yl.assign rfl) rfl ?_ -- t3
  refine WL.nil ?_
  refine WC.seq ?_
  refine WC.seq ?_
  refine WC.region ?_
  refine WL.y (Yl.move rfl) rfl ?_ -- t4
  refine WL.y (Yl.nilEq un25 rfl rfl) rfl ?_ -- t5
  refine WL.know (t := 5) (b' := false) rfl (by first | rfl | (simp; done) | (simp; omega)) ?_
  refine WL.y (Yl.move rfl) rfl ?_ -- t6
  refine WL.on rfl rfl ?_
  refine WL.y (Yl.move rfl) rfl ?_ -- t7
  refine WL.on rfl rfl ?_
  refine WL.y (Yl.nilCheck rfl) rfl ?_ -- t8
  refine WL.on rfl rfl ?_
  refine WL.y (Yl.field fo97_7 rfl) rfl ?_ -- t9
  refine WL.on rfl rfl ?_
  refine WL.y (Yl.load on63 rfl (by repeat (first | exact Take1.head | apply Take1.tail)) (by rfl)) rfl ?_ -- t10
  refine WL.on rfl rfl ?_
  refine WL.y (Yl.lenM un63 rfl (MReads.of (m := B.m) MapOf.own (by repeat (first | exact Take1.head | apply Take1.tail)))) rfl ?_ -- t11
  refine WL.on rfl rfl ?_
  refine WL.y (Yl.eql rfl rfl) rfl ?_ -- t12
  refine WL.y (Yl.pickF rfl rfl) rfl ?_ -- t13
  refine WL.say (t := 13) (v' := .bool B.m.isEmpty) rfl (by (rw [nilM])) ?_
  refine WL.nil ?_
  refine WC.cond rfl (fun g13 => ?_) (fun g13 => ?_)
  · refine WC.seq ?_
    refine WC.region ?_
    refine WL.y (Yl.assign rfl) rfl ?_ -- t2
    refine WL.y (Yl.assign rfl) rfl ?_ -- t3
    refine WL.nil ?_
    refine WC.ret ?_
    repeat (first | (with_reducible refine peelT ?_) | (with_reducible refine peelB ?_) | (with_reducible refine peelTX ?_) | (with_reducible refine peelBX ?_) | (with_reducible refine peelBN ?_) | (with_reducible refine peelBO rfl ?_))
    exact ret2 (.inr rfl) Try.results16 rfl rfl fun w' h => ⟨(), trivial, by rw [g13]; rfl, h.sub (by repeat (first | exact TakeL.nil | (apply TakeL.cons; · repeat (first | exact Take1.head | apply Take1.tail))))⟩
  · refine WC.skip ?_
    refine WC.seq ?_
    refine WC.region ?_
    refine WL.y (Yl.move rfl) rfl ?_ -- t14
    refine WL.y (Yl.move rfl) rfl ?_ -- t15
    refine WL.y (Yl.nilCheck rfl) rfl ?_ -- t16
    refine WL.y (Yl.field fo97_6 rfl) rfl ?_ -- t17
    refine WL.y (Yl.load on22 rfl (by repeat (first | exact Take1.head | apply Take1.tail)) (by rfl)) rfl ?_ -- t18
    refine WL.callC (xs := [.tmp 14, .tmp 18]) (cap := []) rfl rfl en47 (by repeat (first | exact TakeL.nil | (apply TakeL.cons; · repeat (first | exact Take1.head | apply Take1.tail)))) (fun w hw => dueU_any b m B B.nx hB hB.nx w hw.left.here) rfl ?_ -- t19 (*hailer/jitter.Buffer[uint32]).due
    rintro ⟨⟩ -
    dsimp only [jb, List.cons_append, List.nil_append]
    refine WL.y (Yl.assign rfl) rfl ?_ -- t2
    refine WL.y (Yl.assign rfl) rfl ?_ -- t3
    refine WL.nil ?_
    refine WC.ret ?_
    repeat (first | (with_reducible refine peelT ?_) | (with_reducible refine peelB ?_) | (with_reducible refine peelTX ?_) | (with_reducible refine peelBX ?_) | (with_reducible refine peelBN ?_) | (with_reducible refine peelBO rfl ?_))
    exact ret2 (.inr rfl) Try.results16 rfl rfl fun w' h => ⟨(), trivial, by rw [g13]; rfl, h.sub (by repeat (first | exact TakeL.nil | (apply TakeL.cons; · repeat (first | exact Take1.head | apply Take1.tail))))⟩

set_option maxRecDepth 100000 in
theorem putU_any (b m : Nat) (B : Jb) (ctr now : Int) (x : Value) (hB : B.ok) (hc : U6 ctr) (hn : U6 now) (w : World) (hw : OK w (fpL (jb 97 b m B)) (jb 97 b m B) w) :
    Fn Try.prog 10 [.pointer (some ⟨b, 0, none⟩), .int .u64 ctr, .int .u64 now, x] (jb 97 b m B) w (fun _ : Unit => True) (fun _ => .int .i64 (B.put ctr now x).2) (fun _ => jb 97 b m (B.put ctr now x).1) := by
  unfold jb at hw ⊢
  have hCo := Jb.some1_ok hB hc hn
  unfold Jb.put
  obtain ⟨C, hC⟩ : ∃ C, B.some1 ctr now = C := ⟨_, rfl⟩
  rw [hC] at hCo ⊢
  refine enterF Try.func10 rfl Try.ntmps10 rfl hw ?_
  refine WC.seq ?_
  refine WC.region ?_
  refine WL.y (Yl.assign rfl) rfl ?_ -- t8
  refine WL.nil ?_
  refine WC.seq ?_
  refine WC.seq ?_
  refine WC.region ?_
  refine WL.y (Yl.move rfl) rfl ?_ -- t11
  refine WL.y (Yl.nilEq un25 rfl rfl) rfl ?_ -- t12
  refine WL.know (t := 12) (b' := false) rfl (by first | rfl | (simp; done) | (simp; omega)) ?_
  refine WL.nil ?_
  refine WC.condF rfl (by first | rfl | (simp; done) | (simp; omega)) ?_
  refine WC.skip ?_
  refine WC.midE (α := Unit) (fun _ => []) (fun _ => [blkR b 97 (C.cells m), mapR (Value.int .u64) vI m C.m]) (fun _ => True) ?_ ?_
  · refine WC.seq ?_
    refine WC.region ?_
    refine WL.y (Yl.move rfl) rfl ?_ -- t13
    refine WL.y (Yl.nilCheck rfl) rfl ?_ -- t14
    refine WL.y (Yl.field fo97_2 rfl) rfl ?_ -- t15
    refine WL.y (Yl.load on4 rfl (by repeat (first | exact Take1.head | apply Take1.tail)) (by rfl)) rfl ?_ -- t16
    refine WL.y (Yl.not rfl) rfl ?_ -- t17
    refine WL.nil ?_
    refine WC.cond rfl (fun g17 => ?_) (fun g17 => ?_)
    · refine WC.region ?_
      refine WL.y (Yl.move rfl) rfl ?_ -- t18
      refine WL.y (Yl.move rfl) rfl ?_ -- t19
      refine WL.y (Yl.move rfl) rfl ?_ -- t20
      refine WL.y (Yl.move rfl) rfl ?_ -- t21
      refine WL.y (Yl.move rfl) rfl ?_ -- t22
      refine WL.y (Yl.move rfl) rfl ?_ -- t23
      refine WL.y (Yl.move rfl) rfl ?_ -- t24
      refine WL.y (Yl.nilCheck rfl) rfl ?_ -- t25
      refine WL.y (Yl.field fo97_2 rfl) rfl ?_ -- t26
      refine WL.sto (Sto.one sz4 rfl rfl (by repeat (first | exact Take1.head | apply Take1.tail)) rfl (by rfl) (by rfl)) (fun _ h => nomatch h) ?_ -- st 1
      refine WL.y (Yl.nilCheck rfl) rfl ?_ -- t27
      refine WL.y (Yl.field fo97_4 rfl) rfl ?_ -- t28
      refine WL.sto (Sto.one sz22 rfl rfl (by repeat (first | exact Take1.head | apply Take1.tail)) rfl (by rfl) (by rfl)) (fun _ h => nomatch h) ?_ -- st 2
      refine WL.y (Yl.nilCheck rfl) rfl ?_ -- t29
      refine WL.y (Yl.field fo97_6 rfl) rfl ?_ -- t30
      refine WL.sto (Sto.one sz22 rfl rfl (by repeat (first | exact Take1.head | apply Take1.tail)) rfl (by rfl) (by rfl)) (fun _ h => nomatch h) ?_ -- st 3
      refine WL.y (Yl.nilCheck rfl) rfl ?_ -- t31
      refine WL.y (Yl.field fo97_5 rfl) rfl ?_ -- t32
      refine WL.sto (Sto.one sz22 rfl rfl (by repeat (first | exact Take1.head | apply Take1.tail)) rfl (by rfl) (by rfl)) (fun _ h => nomatch h) ?_ -- st 4
      refine WL.nil ?_
      have e : C = { B with so := true, fi := ctr, nx := ctr, tm := now } := by rw [← hC]; exact if_neg (by simpa using g17)
      subst e
      exact ⟨rfl, (), trivial, (by repeat (first | exact Sub.nil | refine Sub.cons rfl ?_)), (by repeat (first | exact Sub.nil | refine Sub.cons rfl ?_)), _, (by repeat (first | exact TakeL.nil | (apply TakeL.cons; · repeat (first | exact Take1.head | apply Take1.tail))))⟩
    · refine WC.skip ?_
      have e : C = B := by rw [← hC]; exact if_pos (by simpa using g17)
      subst e
      exact ⟨rfl, (), trivial, (by repeat (first | exact Sub.nil | refine Sub.cons rfl ?_)), (by repeat (first | exact Sub.nil | refine Sub.cons rfl ?_)), _, (by repeat (first | exact TakeL.nil | (apply TakeL.cons; · repeat (first | exact Take1.head | apply Take1.tail))))⟩
  · rintro ⟨⟩ -
    dsimp only [List.nil_append]
    refine WC.seq ?_
    refine WC.region ?_
    refine WL.y (Yl.move rfl) rfl ?_ -- t34
    refine WL.y (Yl.nilCheck rfl) rfl ?_ -- t35
    refine WL.y (Yl.field fo97_7 rfl) rfl ?_ -- t36
    refine WL.y (Yl.load on63 rfl (by repeat (first | exact Take1.head | apply Take1.tail)) (by rfl)) rfl ?_ -- t37
    refine WL.y (Yl.move rfl) rfl ?_ -- t38
    refine WL.y (Yl.lookupOk (kv := Value.int .u64) keyU un63 (fun _ => by kernel_rfl) (z := .int .u32 0) hCo.m rfl rfl hc (MReads.of (m := C.m) MapOf.own (by repeat (first | exact Take1.head | apply Take1.tail)))) rfl ?_ -- t39
    refine WL.y (Yl.move rfl) rfl ?_ -- t33
    refine WL.y (Yl.extract rfl rfl) rfl ?_ -- t40
    refine WL.y (Yl.extract rfl rfl) rfl ?_ -- t41
    refine WL.y (Yl.assign rfl) rfl ?_ -- t9
    refine WL.y (Yl.assign rfl) rfl ?_ -- t10
    refine WL.nil ?_
    refine WC.seq ?_
    refine WC.block ?_
    refine WC.midE (α := Unit) (fun _ => [(42, .bool (C.late ctr))]) (fun _ => [blkR b 97 (C.cells m), mapR (Value.int .u64) vI m C.m]) (fun _ => True) ?_ ?_
    · refine WC.region ?_
      refine WL.y (Yl.move rfl) rfl ?_ -- t43
      refine WL.y (Yl.nilCheck rfl) rfl ?_ -- t44
      refine WL.y (Yl.field fo97_3 rfl) rfl ?_ -- t45
      refine WL.y (Yl.load on4 rfl (by repeat (first | exact Take1.head | apply Take1.tail)) (by rfl)) rfl ?_ -- t46
      refine WL.y (Yl.move rfl) rfl ?_ -- t47
      refine WL.both (t := 47) rfl (fun g47 => ?_) (fun g47 => ?_)
      · refine WL.off rfl rfl rfl rfl ?_ -- t48
        refine WL.off rfl rfl rfl rfl ?_ -- t49
        refine WL.off rfl rfl rfl rfl ?_ -- t50
        refine WL.off rfl rfl rfl rfl ?_ -- t51
        refine WL.off rfl rfl rfl rfl ?_ -- t52
        refine WL.off rfl rfl rfl rfl ?_ -- t53
        refine WL.y (Yl.pickT rfl rfl) rfl ?_ -- t54
        refine WL.y (Yl.assign rfl) rfl ?_ -- t42
        refine WL.say (t := 42) (v' := .bool (C.late ctr)) rfl (by (unfold Jb.late; rw [g47]; rfl)) ?_
        refine WL.nil ?_
        exact ⟨rfl, (), trivial, (by repeat (first | exact Sub.nil | refine Sub.cons rfl ?_)), (by repeat (first | exact Sub.nil | refine Sub.cons rfl ?_)), _, (by repeat (first | exact TakeL.nil | (apply TakeL.cons; · repeat (first | exact Take1.head | apply Take1.tail))))⟩
      · refine WL.on rfl rfl ?_
        refine WL.y (Yl.move rfl) rfl ?_ -- t48
        refine WL.on rfl rfl ?_
        refine WL.y (Yl.move rfl) rfl ?_ -- t49
        refine WL.on rfl rfl ?_
        refine WL.y (Yl.nilCheck rfl) rfl ?_ -- t50
        refine WL.on rfl rfl ?_
        refine WL.y (Yl.field fo97_6 rfl) rfl ?_ -- t51
        refine WL.on rfl rfl ?_
        refine WL.y (Yl.load on22 rfl (by repeat (first | exact Take1.head | apply Take1.tail)) (by rfl)) rfl ?_ -- t52
        refine WL.on rfl rfl ?_
        refine WL.y (Yl.lss rfl rfl) rfl ?_ -- t53
        refine WL.y (Yl.pickF rfl rfl) rfl ?_ -- t54
        refine WL.y (Yl.assign rfl) rfl ?_ -- t42
        refine WL.say (t := 42) (v' := .bool (C.late ctr)) rfl (by (unfold Jb.late; rw [g47]; rfl)) ?_
        refine WL.nil ?_
        exact ⟨rfl, (), trivial, (by repeat (first | exact Sub.nil | refine Sub.cons rfl ?_)), (by repeat (first | exact Sub.nil | refine Sub.cons rfl ?_)), _, (by repeat (first | exact TakeL.nil | (apply TakeL.cons; · repeat (first | exact Take1.head | apply Take1.tail))))⟩
    · rintro ⟨⟩ -
      dsimp only [List.cons_append, List.nil_append]
      refine WC.cond rfl (fun g42 => ?_) (fun g42 => ?_)
      · refine WC.seq ?_
        refine WC.region ?_
        refine WL.y (Yl.move rfl) rfl ?_ -- t55
        refine WL.y (Yl.nilCheck rfl) rfl ?_ -- t56
        refine WL.y (Yl.field fo97_8 rfl) rfl ?_ -- t57
        refine WL.y (Yl.field fo66_3 rfl) rfl ?_ -- t58
        refine WL.y (Yl.load on22 rfl (by repeat (first | exact Take1.head | apply Take1.tail)) (by rfl)) rfl ?_ -- t59
        refine WL.y (Yl.add rfl rfl rfl) rfl ?_ -- t60
        refine WL.y (Yl.nilCheck rfl) rfl ?_ -- t61
        refine WL.y (Yl.field fo97_8 rfl) rfl ?_ -- t62
        refine WL.y (Yl.field fo66_3 rfl) rfl ?_ -- t63
        refine WL.sto (Sto.one sz22 rfl rfl (by repeat (first | exact Take1.head | apply Take1.tail)) rfl (by rfl) (by rfl)) (fun _ h => nomatch h) ?_ -- st 5
        refine WL.nil ?_
        refine WC.seq ?_
        refine WC.region ?_
        refine WL.y (Yl.assign rfl) rfl ?_ -- t8
        refine WL.nil ?_
        refine WC.ret ?_
        repeat (first | (with_reducible refine peelT ?_) | (with_reducible refine peelB ?_) | (with_reducible refine peelTX ?_) | (with_reducible refine peelBX ?_) | (with_reducible refine peelBN ?_) | (with_reducible refine peelBO rfl ?_))
        exact ret1 (.inr rfl) Try.results10 rfl fun w' h => ⟨(), trivial, by unfold Jb.put0; rw [if_pos g42], by unfold Jb.put0; rw [if_pos g42]; exact h.sub (by repeat (first | exact TakeL.nil | (apply TakeL.cons; · repeat (first | exact Take1.head | apply Take1.tail))))⟩
      · refine WC.seq ?_
        refine WC.region ?_
        refine WL.y (Yl.move rfl) rfl ?_ -- t65
        refine WL.y (Yl.assign rfl) rfl ?_ -- t64
        refine WL.nil ?_
        refine WC.cond rfl (fun g64 => ?_) (fun g64 => ?_)
        · refine WC.seq ?_
          refine WC.region ?_
          refine WL.y (Yl.move rfl) rfl ?_ -- t66
          refine WL.y (Yl.nilCheck rfl) rfl ?_ -- t67
          refine WL.y (Yl.field fo97_8 rfl) rfl ?_ -- t68
          refine WL.y (Yl.field fo66_4 rfl) rfl ?_ -- t69
          refine WL.y (Yl.load on22 rfl (by repeat (first | exact Take1.head | apply Take1.tail)) (by rfl)) rfl ?_ -- t70
          refine WL.y (Yl.add rfl rfl rfl) rfl ?_ -- t71
          refine WL.y (Yl.nilCheck rfl) rfl ?_ -- t72
          refine WL.y (Yl.field fo97_8 rfl) rfl ?_ -- t73
          refine WL.y (Yl.field fo66_4 rfl) rfl ?_ -- t74
          refine WL.sto (Sto.one sz22 rfl rfl (by repeat (first | exact Take1.head | apply Take1.tail)) rfl (by rfl) (by rfl)) (fun _ h => nomatch h) ?_ -- st 6
          refine WL.nil ?_
          refine WC.seq ?_
          refine WC.region ?_
          refine WL.y (Yl.assign rfl) rfl ?_ -- t8
          refine WL.nil ?_
          refine WC.ret ?_
          repeat (first | (with_reducible refine peelT ?_) | (with_reducible refine peelB ?_) | (with_reducible refine peelTX ?_) | (with_reducible refine peelBX ?_) | (with_reducible refine peelBN ?_) | (with_reducible refine peelBO rfl ?_))
          exact ret1 (.inr rfl) Try.results10 rfl fun w' h => ⟨(), trivial, by unfold Jb.put0; rw [if_neg (ne_true_of_eq_false g42), if_pos g64], by unfold Jb.put0; rw [if_neg (ne_true_of_eq_false g42), if_pos g64]; exact h.sub (by repeat (first | exact TakeL.nil | (apply TakeL.cons; · repeat (first | exact Take1.head | apply Take1.tail))))⟩
        · refine WC.seq ?_
          refine WC.region ?_
          refine WL.y (Yl.move rfl) rfl ?_ -- t76
          refine WL.y (Yl.move rfl) rfl ?_ -- t77
          refine WL.y (Yl.nilCheck rfl) rfl ?_ -- t78
          refine WL.y (Yl.field fo97_6 rfl) rfl ?_ -- t79
          refine WL.y (Yl.load on22 rfl (by repeat (first | exact Take1.head | apply Take1.tail)) (by rfl)) rfl ?_ -- t80
          refine WL.y (Yl.sub rfl rfl rfl) rfl ?_ -- t81
          refine WL.y (Yl.gtr rfl rfl) rfl ?_ -- t82
          refine WL.say (t := 82) (v' := .bool (decide (512 < wr (ctr - C.nx)))) rfl (by rfl) ?_
          refine WL.y (Yl.assign rfl) rfl ?_ -- t75
          refine WL.nil ?_
          refine WC.cond rfl (fun g75 => ?_) (fun g75 => ?_)
          · refine WC.seq ?_
            refine WC.region ?_
            refine WL.y (Yl.move rfl) rfl ?_ -- t83
            refine WL.y (Yl.nilCheck rfl) rfl ?_ -- t84
            refine WL.y (Yl.field fo97_8 rfl) rfl ?_ -- t85
            refine WL.y (Yl.field fo66_5 rfl) rfl ?_ -- t86
            refine WL.y (Yl.load on22 rfl (by repeat (first | exact Take1.head | apply Take1.tail)) (by rfl)) rfl ?_ -- t87
            refine WL.y (Yl.add rfl rfl rfl) rfl ?_ -- t88
            refine WL.y (Yl.nilCheck rfl) rfl ?_ -- t89
            refine WL.y (Yl.field fo97_8 rfl) rfl ?_ -- t90
            refine WL.y (Yl.field fo66_5 rfl) rfl ?_ -- t91
            refine WL.sto (Sto.one sz22 rfl rfl (by repeat (first | exact Take1.head | apply Take1.tail)) rfl (by rfl) (by rfl)) (fun _ h => nomatch h) ?_ -- st 7
            refine WL.nil ?_
            refine WC.seq ?_
            refine WC.region ?_
            refine WL.y (Yl.assign rfl) rfl ?_ -- t8
            refine WL.nil ?_
            refine WC.ret ?_
            repeat (first | (with_reducible refine peelT ?_) | (with_reducible refine peelB ?_) | (with_reducible refine peelTX ?_) | (with_reducible refine peelBX ?_) | (with_reducible refine peelBN ?_) | (with_reducible refine peelBO rfl ?_))
            have h75 : 512 < wr (ctr - C.nx) := by simpa using g75
            exact ret1 (.inr rfl) Try.results10 rfl fun w' h => ⟨(), trivial, by unfold Jb.put0; rw [if_neg (ne_true_of_eq_false g42), if_neg (ne_true_of_eq_false g64), if_pos h75], by unfold Jb.put0; rw [if_neg (ne_true_of_eq_false g42), if_neg (ne_true_of_eq_false g64), if_pos h75]; exact h.sub (by repeat (first | exact TakeL.nil | (apply TakeL.cons; · repeat (first | exact Take1.head | apply Take1.tail))))⟩
          · refine WC.skip ?_
            refine WC.seq ?_
            refine WC.region ?_
            refine WL.y (Yl.move rfl) rfl ?_ -- t92
            refine WL.y (Yl.nilCheck rfl) rfl ?_ -- t93
            refine WL.y (Yl.field fo97_7 rfl) rfl ?_ -- t94
            refine WL.y (Yl.load on63 rfl (by repeat (first | exact Take1.head | apply Take1.tail)) (by rfl)) rfl ?_ -- t95
            refine WL.y (Yl.move rfl) rfl ?_ -- t96
            refine WL.y (Yl.move rfl) rfl ?_ -- t97
            refine WL.sto (Sto.mapPut (v := x) (q := ctr) (m := C.m) (kv := Value.int .u64) keyU un63 hCo.m rfl rfl hc rfl (by repeat (first | exact Take1.head | apply Take1.tail))) (fun _ h => nomatch h) ?_ -- st 8
            refine WL.nil ?_
            refine WC.seq ?_
            refine WC.region ?_
            refine WL.y (Yl.move rfl) rfl ?_ -- t98
            refine WL.y (Yl.nilCheck rfl) rfl ?_ -- t99
            refine WL.y (Yl.field fo97_8 rfl) rfl ?_ -- t100
            refine WL.y (Yl.field fo66_0 rfl) rfl ?_ -- t101
            refine WL.y (Yl.load on22 rfl (by repeat (first | exact Take1.head | apply Take1.tail)) (by rfl)) rfl ?_ -- t102
            refine WL.y (Yl.add rfl rfl rfl) rfl ?_ -- t103
            refine WL.y (Yl.nilCheck rfl) rfl ?_ -- t104
            refine WL.y (Yl.field fo97_8 rfl) rfl ?_ -- t105
            refine WL.y (Yl.field fo66_0 rfl) rfl ?_ -- t106
            refine WL.sto (Sto.one sz22 rfl rfl (by repeat (first | exact Take1.head | apply Take1.tail)) rfl (by rfl) (by rfl)) (fun _ h => nomatch h) ?_ -- st 9
            refine WL.nil ?_
            refine WC.seq ?_
            refine WC.region ?_
            refine WL.y (Yl.assign rfl) rfl ?_ -- t8
            refine WL.nil ?_
            refine WC.ret ?_
            repeat (first | (with_reducible refine peelT ?_) | (with_reducible refine peelB ?_) | (with_reducible refine peelTX ?_) | (with_reducible refine peelBX ?_) | (with_reducible refine peelBN ?_) | (with_reducible refine peelBO rfl ?_))
            have h75 : ¬ 512 < wr (ctr - C.nx) := by simpa using g75
            exact ret1 (.inr rfl) Try.results10 rfl fun w' h => ⟨(), trivial, by unfold Jb.put0; rw [if_neg (ne_true_of_eq_false g42), if_neg (ne_true_of_eq_false g64), if_neg h75], by unfold Jb.put0; rw [if_neg (ne_true_of_eq_false g42), if_neg (ne_true_of_eq_false g64), if_neg h75]; exact h.sub (by repeat (first | exact TakeL.nil | (apply TakeL.cons; · repeat (first | exact Take1.head | apply Take1.tail))))⟩

set_option maxRecDepth 100000 in
theorem nextU_any (b m : Nat) (B : Jb) (now : Int) (hB : B.ok) (w : World) (hw : OK w (fpL (jb 97 b m B)) (jb 97 b m B) w) :
    Fn Try.prog 12 [.pointer (some ⟨b, 0, none⟩), .int .u64 now] (jb 97 b m B) w (fun _ : Unit => True) (fun _ => .tuple #[(B.next now (.int .u32 0)).2.1, .int .u64 (B.next now (.int .u32 0)).2.2.1, .bool (B.next now (.int .u32 0)).2.2.2.1, .bool (B.next now (.int .u32 0)).2.2.2.2]) (fun _ => jb 97 b m (B.next now (.int .u32 0)).1) := by
  unfold jb at hw ⊢
  refine enterF Try.func12 rfl Try.ntmps12 rfl hw ?_
  refine WC.seq ?_
  refine WC.region ?_
  refine WL.y (Yl.assign rfl) rfl ?_ -- t4
  refine WL.y (Yl.assign rfl) rfl ?_ -- t5
  refine WL.y (Yl.assign rfl) rfl ?_ -- t6
  refine WL.y (Yl.assign rfl) rfl ?_ -- t7
  refine WL.nil ?_
  refine WC.seq ?_
  refine WC.seq ?_
  refine WC.region ?_
  refine WL.y (Yl.move rfl) rfl ?_ -- t11
  refine WL.callC (xs := [.tmp 11]) (cap := []) rfl rfl en16 (by repeat (first | exact TakeL.nil | (apply TakeL.cons; · repeat (first | exact Take1.head | apply Take1.tail)))) (fun w hw => dueFU_any b m B hB w hw.left.here) rfl ?_ -- t12 (*hailer/jitter.Buffer[uint32]).Due
  rintro ⟨⟩ -
  dsimp only [jb, List.cons_append, List.nil_append]
  refine WL.y (Yl.move rfl) rfl ?_ -- t10
  refine WL.y (Yl.extract rfl rfl) rfl ?_ -- t13
  refine WL.y (Yl.extract rfl rfl) rfl ?_ -- t14
  refine WL.y (Yl.assign rfl) rfl ?_ -- t8
  refine WL.y (Yl.assign rfl) rfl ?_ -- t9
  refine WL.nil ?_
  refine WC.midE (α := Unit) (fun _ => [(21, .bool (!B.isDue now))]) (fun _ => [blkR b 97 (B.cells m), mapR (Value.int .u64) vI m B.m]) (fun _ => True) ?_ ?_
  · refine WC.region ?_
    refine WL.y (Yl.move rfl) rfl ?_ -- t15
    refine WL.y (Yl.not rfl) rfl ?_ -- t16
    refine WL.y (Yl.move rfl) rfl ?_ -- t17
    refine WL.both (t := 17) rfl (fun g17 => ?_) (fun g17 => ?_)
    · refine WL.off rfl rfl rfl rfl ?_ -- t18
      refine WL.off rfl rfl rfl rfl ?_ -- t19
      refine WL.off rfl rfl rfl rfl ?_ -- t20
      refine WL.y (Yl.pickT rfl rfl) rfl ?_ -- t21
      refine WL.say (t := 21) (v' := .bool (!B.isDue now)) rfl (by (unfold Jb.isDue; first | (rw [show B.m.isEmpty = true by simpa using g17]; rfl) | (rw [show B.m.isEmpty = false by simpa using g17]; simp [← Int.not_le]))) ?_
      refine WL.nil ?_
      exact ⟨rfl, (), trivial, (by repeat (first | exact Sub.nil | refine Sub.cons rfl ?_)), (by repeat (first | exact Sub.nil | refine Sub.cons rfl ?_)), _, (by repeat (first | exact TakeL.nil | (apply TakeL.cons; · repeat (first | exact Take1.head | apply Take1.tail))))⟩
    · refine WL.on rfl rfl ?_
      refine WL.y (Yl.move rfl) rfl ?_ -- t18
      refine WL.on rfl rfl ?_
      refine WL.y (Yl.move rfl) rfl ?_ -- t19
      refine WL.on rfl rfl ?_
      refine WL.y (Yl.gtr rfl rfl) rfl ?_ -- t20
      refine WL.y (Yl.pickF rfl rfl) rfl ?_ -- t21
      refine WL.say (t := 21) (v' := .bool (!B.isDue now)) rfl (by (unfold Jb.isDue; first | (rw [show B.m.isEmpty = true by simpa using g17]; rfl) | (rw [show B.m.isEmpty = false by simpa using g17]; simp [← Int.not_le]))) ?_
      refine WL.nil ?_
      exact ⟨rfl, (), trivial, (by repeat (first | exact Sub.nil | refine Sub.cons rfl ?_)), (by repeat (first | exact Sub.nil | refine Sub.cons rfl ?_)), _, (by repeat (first | exact TakeL.nil | (apply TakeL.cons; · repeat (first | exact Take1.head | apply Take1.tail))))⟩
  · rintro ⟨⟩ -
    dsimp only [List.cons_append, List.nil_append]
    refine WC.cond rfl (fun g21 => ?_) (fun g21 => ?_)
    · refine WC.seq ?_
      refine WC.region ?_
      refine WL.y (Yl.move rfl) rfl ?_ -- t22
      refine WL.y (Yl.assign rfl) rfl ?_ -- t4
      refine WL.y (Yl.assign rfl) rfl ?_ -- t5
      refine WL.y (Yl.assign rfl) rfl ?_ -- t6
      refine WL.y (Yl.assign rfl) rfl ?_ -- t7
      refine WL.nil ?_
      refine WC.ret ?_
      repeat (first | (with_reducible refine peelT ?_) | (with_reducible refine peelB ?_) | (with_reducible refine peelTX ?_) | (with_reducible refine peelBX ?_) | (with_reducible refine peelBN ?_) | (with_reducible refine peelBO rfl ?_))
      have hd : ¬ B.isDue now = true := by simpa using g21
      exact ret4 (.inr rfl) Try.results12 rfl rfl rfl rfl fun w' h => ⟨(), trivial, by unfold Jb.next; rw [if_neg hd], by unfold Jb.next; rw [if_neg hd]; exact h.sub (by repeat (first | exact TakeL.nil | (apply TakeL.cons; · repeat (first | exact Take1.head | apply Take1.tail))))⟩
    · refine WC.skip ?_
      refine WC.seq ?_
      have hd : B.isDue now = true := by simpa using g21
      have hnx : B.next now (.int .u32 0) = (B.step, (mget B.m B.nx).getD (.int .u32 0), B.nx, !(mget B.m B.nx).isSome, true) := by unfold Jb.next; rw [if_pos hd]
      rw [hnx]
      dsimp only
      refine WC.region ?_
      refine WL.y (Yl.move rfl) rfl ?_ -- t23
      refine WL.y (Yl.nilCheck rfl) rfl ?_ -- t24
      refine WL.y (Yl.field fo97_6 rfl) rfl ?_ -- t25
      refine WL.y (Yl.load on22 rfl (by repeat (first | exact Take1.head | apply Take1.tail)) (by rfl)) rfl ?_ -- t26
      refine WL.y (Yl.assign rfl) rfl ?_ -- t5
      refine WL.nil ?_
      refine WC.seq ?_
      refine WC.region ?_
      refine WL.y (Yl.move rfl) rfl ?_ -- t28
      refine WL.y (Yl.nilCheck rfl) rfl ?_ -- t29
      refine WL.y (Yl.field fo97_7 rfl) rfl ?_ -- t30
      refine WL.y (Yl.load on63 rfl (by repeat (first | exact Take1.head | apply Take1.tail)) (by rfl)) rfl ?_ -- t31
      refine WL.y (Yl.move rfl) rfl ?_ -- t32
      refine WL.y (Yl.lookupOk (kv := Value.int .u64) keyU un63 (fun _ => by kernel_rfl) (z := .int .u32 0) hB.m rfl rfl hB.nx (MReads.of (m := B.m) MapOf.own (by repeat (first | exact Take1.head | apply Take1.tail)))) rfl ?_ -- t33
      rw [mapI]
      refine WL.y (Yl.move rfl) rfl ?_ -- t27
      refine WL.y (Yl.extract rfl rfl) rfl ?_ -- t34
      refine WL.y (Yl.extract rfl rfl) rfl ?_ -- t35
      refine WL.y (Yl.assign rfl) rfl ?_ -- t4
      refine WL.y (Yl.assign rfl) rfl ?_ -- t7
      refine WL.nil ?_
      refine WC.midX (α := Unit) (fun _ => [(0, .pointer (some ⟨b, 0, none⟩)), (4, (mget B.m B.nx).getD (.int .u32 0)), (5, .int .u64 B.nx), (7, .bool (mget B.m B.nx).isSome)]) (fun _ => [blkR b 97 ({ B with p := if (mget B.m B.nx).isSome then wr (B.p + 1) else B.p, l := if (mget B.m B.nx).isSome then B.l else wr (B.l + 1) }.cells m), mapR (Value.int .u64) vI m B.m]) (fun _ => True) ?_ ?_
      · refine WC.seq ?_
        refine WC.region ?_
        refine WL.y (Yl.move rfl) rfl ?_ -- t36
        refine WL.nil ?_
        refine WC.cond rfl (fun g36 => ?_) (fun g36 => ?_)
        · refine WC.region ?_
          refine WL.y (Yl.move rfl) rfl ?_ -- t37
          refine WL.y (Yl.nilCheck rfl) rfl ?_ -- t38
          refine WL.y (Yl.field fo97_8 rfl) rfl ?_ -- t39
          refine WL.y (Yl.field fo66_1 rfl) rfl ?_ -- t40
          refine WL.y (Yl.load on22 rfl (by repeat (first | exact Take1.head | apply Take1.tail)) (by rfl)) rfl ?_ -- t41
          refine WL.y (Yl.add rfl rfl rfl) rfl ?_ -- t42
          refine WL.y (Yl.nilCheck rfl) rfl ?_ -- t43
          refine WL.y (Yl.field fo97_8 rfl) rfl ?_ -- t44
          refine WL.y (Yl.field fo66_1 rfl) rfl ?_ -- t45
          refine WL.sto (Sto.one sz22 rfl rfl (by repeat (first | exact Take1.head | apply Take1.tail)) rfl (by rfl) (by rfl)) (fun _ h => nomatch h) ?_ -- st 1
          refine WL.nil ?_
          rw [if_pos g36, if_pos g36]
          exact ⟨rfl, (), trivial, (by repeat (first | exact Sub.nil | refine Sub.cons rfl ?_)), _, (by repeat (first | exact TakeL.nil | (apply TakeL.cons; · repeat (first | exact Take1.head | apply Take1.tail))))⟩
        · refine WC.region ?_
          refine WL.y (Yl.move rfl) rfl ?_ -- t46
          refine WL.y (Yl.nilCheck rfl) rfl ?_ -- t47
          refine WL.y (Yl.field fo97_8 rfl) rfl ?_ -- t48
          refine WL.y (Yl.field fo66_2 rfl) rfl ?_ -- t49
          refine WL.y (Yl.load on22 rfl (by repeat (first | exact Take1.head | apply Take1.tail)) (by rfl)) rfl ?_ -- t50
          refine WL.y (Yl.add rfl rfl rfl) rfl ?_ -- t51
          refine WL.y (Yl.nilCheck rfl) rfl ?_ -- t52
          refine WL.y (Yl.field fo97_8 rfl) rfl ?_ -- t53
          refine WL.y (Yl.field fo66_2 rfl) rfl ?_ -- t54
          refine WL.sto (Sto.one sz22 rfl rfl (by repeat (first | exact Take1.head | apply Take1.tail)) rfl (by rfl) (by rfl)) (fun _ h => nomatch h) ?_ -- st 2
          refine WL.nil ?_
          rw [if_neg (ne_true_of_eq_false g36), if_neg (ne_true_of_eq_false g36)]
          exact ⟨rfl, (), trivial, (by repeat (first | exact Sub.nil | refine Sub.cons rfl ?_)), _, (by repeat (first | exact TakeL.nil | (apply TakeL.cons; · repeat (first | exact Take1.head | apply Take1.tail))))⟩
      · rintro ⟨⟩ -
        refine WC.seq ?_
        refine WC.region ?_
        refine WL.y (Yl.move rfl) rfl ?_ -- t55
        refine WL.y (Yl.nilCheck rfl) rfl ?_ -- t56
        refine WL.y (Yl.field fo97_7 rfl) rfl ?_ -- t57
        refine WL.y (Yl.load on63 rfl (by repeat (first | exact Take1.head | apply Take1.tail)) (by rfl)) rfl ?_ -- t58
        refine WL.y (Yl.move rfl) rfl ?_ -- t59
        refine WL.eff (Eff.mapDel (q := B.nx) (m := B.m) (kv := Value.int .u64) (vv := vI) keyU un63 hB.m rfl rfl hB.nx (by repeat (first | exact Take1.head | apply Take1.tail))) ?_
        refine WL.nil ?_
        refine WC.seq ?_
        refine WC.region ?_
        refine WL.y (Yl.move rfl) rfl ?_ -- t60
        refine WL.y (Yl.nilCheck rfl) rfl ?_ -- t61
        refine WL.y (Yl.field fo97_6 rfl) rfl ?_ -- t62
        refine WL.y (Yl.load on22 rfl (by repeat (first | exact Take1.head | apply Take1.tail)) (by rfl)) rfl ?_ -- t63
        refine WL.y (Yl.add rfl rfl rfl) rfl ?_ -- t64
        refine WL.y (Yl.nilCheck rfl) rfl ?_ -- t65
        refine WL.y (Yl.field fo97_6 rfl) rfl ?_ -- t66
        refine WL.sto (Sto.one sz22 rfl rfl (by repeat (first | exact Take1.head | apply Take1.tail)) rfl (by rfl) (by rfl)) (fun _ h => nomatch h) ?_ -- st 3
        refine WL.nil ?_
        refine WC.seq ?_
        refine WC.region ?_
        refine WL.y (Yl.move rfl) rfl ?_ -- t67
        refine WL.y (Yl.move rfl) rfl ?_ -- t68
        refine WL.y (Yl.nilCheck rfl) rfl ?_ -- t69
        refine WL.y (Yl.field fo97_6 rfl) rfl ?_ -- t70
        refine WL.y (Yl.load on22 rfl (by repeat (first | exact Take1.head | apply Take1.tail)) (by rfl)) rfl ?_ -- t71
        refine WL.y (Yl.eql rfl rfl) rfl ?_ -- t72
        refine WL.y (Yl.nilCheck rfl) rfl ?_ -- t73
        refine WL.y (Yl.field fo97_3 rfl) rfl ?_ -- t74
        refine WL.sto (Sto.one sz4 rfl rfl (by repeat (first | exact Take1.head | apply Take1.tail)) rfl (by rfl) (by rfl)) (fun _ h => nomatch h) ?_ -- st 4
        refine WL.nil ?_
        refine WC.seq ?_
        refine WC.region ?_
        refine WL.y (Yl.move rfl) rfl ?_ -- t75
        refine WL.y (Yl.move rfl) rfl ?_ -- t76
        refine WL.y (Yl.move rfl) rfl ?_ -- t77
        refine WL.y (Yl.not rfl) rfl ?_ -- t78
        refine WL.y (Yl.assign rfl) rfl ?_ -- t4
        refine WL.y (Yl.assign rfl) rfl ?_ -- t5
        refine WL.y (Yl.assign rfl) rfl ?_ -- t6
        refine WL.y (Yl.assign rfl) rfl ?_ -- t7
        refine WL.nil ?_
        refine WC.ret ?_
        repeat (first | (with_reducible refine peelT ?_) | (with_reducible refine peelB ?_) | (with_reducible refine peelTX ?_) | (with_reducible refine peelBX ?_) | (with_reducible refine peelBN ?_) | (with_reducible refine peelBO rfl ?_))
        exact ret4 (.inr rfl) Try.results12 rfl rfl rfl rfl fun w' h => ⟨(), trivial, rfl, h.sub (by repeat (first | exact TakeL.nil | (apply TakeL.cons; · repeat (first | exact Take1.head | apply Take1.tail))))⟩
end Go.Proofs.Ytklbmgfpnafdlaa
