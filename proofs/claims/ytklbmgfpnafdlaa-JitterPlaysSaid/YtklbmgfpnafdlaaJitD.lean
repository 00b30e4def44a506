/- The document's bounds; buffers that are none: the walks. -/
import Derived.Test.YtklbmgfpnafdlaaJitC
import Derived.Test.YtklbmgfpnafdlaaLibJ
namespace Go.Proofs.Ytklbmgfpnafdlaa
open Go Go.RowKit

def mayJ (d s : Int) : Bool := decide (d ≤ 4294967296) && decide (0 < s) && decide (s ≤ 4294967296)
theorem may_any (d s : Int) (w : World) (hw : OK w (fpL []) [] w) : Fn Try.prog 9 [.int .u64 d, .int .u64 s] [] w (fun _ : Unit => True) (fun _ => .bool (mayJ d s)) (fun _ => []) := by
  refine enterF Try.func9 rfl Try.ntmps9 rfl hw ?_
  refine WC.seq ?_
  refine WC.region ?_
  refine WL.y (Yl.assign rfl) rfl ?_ -- t4
  refine WL.nil ?_
  refine WC.seq ?_
  refine WC.region ?_
  refine WL.y (Yl.move rfl) rfl ?_ -- t5
  refine WL.y (Yl.leq rfl rfl) rfl ?_ -- t6
  refine WL.y (Yl.move rfl) rfl ?_ -- t7
  refine WL.both (t := 7) rfl (fun g7 => ?_) (fun g7 => ?_)
  · refine WL.on rfl rfl ?_
    refine WL.y (Yl.move rfl) rfl ?_ -- t8
    refine WL.on rfl rfl ?_
    refine WL.y (Yl.gtr rfl rfl) rfl ?_ -- t9
    refine WL.y (Yl.pickT rfl rfl) rfl ?_ -- t10
    refine WL.y (Yl.move rfl) rfl ?_ -- t11
    refine WL.both (t := 11) rfl (fun g11 => ?_) (fun g11 => ?_)
    · refine WL.on rfl rfl ?_
      refine WL.y (Yl.move rfl) rfl ?_ -- t12
      refine WL.on rfl rfl ?_
      refine WL.y (Yl.leq rfl rfl) rfl ?_ -- t13
      refine WL.y (Yl.pickT rfl rfl) rfl ?_ -- t14
      refine WL.y (Yl.assign rfl) rfl ?_ -- t4
      refine WL.nil ?_
      refine WC.ret ?_
      repeat (first | (with_reducible refine peelT ?_) | (with_reducible refine peelB ?_) | (with_reducible refine peelTX ?_) | (with_reducible refine peelBX ?_) | (with_reducible refine peelBN ?_) | (with_reducible refine peelBO rfl ?_))
      exact ret1 (.inr rfl) Try.results9 rfl fun w' h => ⟨(), trivial, by unfold mayJ; simp_all <;> (intros; omega), h.sub (by repeat (first | exact TakeL.nil | (apply TakeL.cons; · repeat (first | exact Take1.head | apply Take1.tail))))⟩
    · refine WL.off rfl rfl rfl rfl ?_ -- t12
      refine WL.off rfl rfl rfl rfl ?_ -- t13
      refine WL.y (Yl.pickF rfl rfl) rfl ?_ -- t14
      refine WL.y (Yl.assign rfl) rfl ?_ -- t4
      refine WL.nil ?_
      refine WC.ret ?_
      repeat (first | (with_reducible refine peelT ?_) | (with_reducible refine peelB ?_) | (with_reducible refine peelTX ?_) | (with_reducible refine peelBX ?_) | (with_reducible refine peelBN ?_) | (with_reducible refine peelBO rfl ?_))
      exact ret1 (.inr rfl) Try.results9 rfl fun w' h => ⟨(), trivial, by unfold mayJ; simp_all <;> (intros; omega), h.sub (by repeat (first | exact TakeL.nil | (apply TakeL.cons; · repeat (first | exact Take1.head | apply Take1.tail))))⟩
  · refine WL.off rfl rfl rfl rfl ?_ -- t8
    refine WL.off rfl rfl rfl rfl ?_ -- t9
    refine WL.y (Yl.pickF rfl rfl) rfl ?_ -- t10
    refine WL.y (Yl.move rfl) rfl ?_ -- t11
    refine WL.off rfl rfl rfl rfl ?_ -- t12
    refine WL.off rfl rfl rfl rfl ?_ -- t13
    refine WL.y (Yl.pickF rfl rfl) rfl ?_ -- t14
    refine WL.y (Yl.assign rfl) rfl ?_ -- t4
    refine WL.nil ?_
    refine WC.ret ?_
    repeat (first | (with_reducible refine peelT ?_) | (with_reducible refine peelB ?_) | (with_reducible refine peelTX ?_) | (with_reducible refine peelBX ?_) | (with_reducible refine peelBN ?_) | (with_reducible refine peelBO rfl ?_))
    exact ret1 (.inr rfl) Try.results9 rfl fun w' h => ⟨(), trivial, by unfold mayJ; simp_all <;> (intros; omega), h.sub (by repeat (first | exact TakeL.nil | (apply TakeL.cons; · repeat (first | exact Take1.head | apply Take1.tail))))⟩
theorem newT_bad (w : World) (hw : OK w (fpL []) [] w) : Fn Try.prog 33 [.int .u64 1, .int .u64 0] [] w (fun _ : Unit => True) (fun _ => .tuple #[.pointer none, .int .i64 2]) (fun _ => []) := by
  refine enterF Try.func33 rfl Try.ntmps33 rfl hw ?_
  refine WC.seq ?_
  refine WC.region ?_
  refine WL.y (Yl.assign rfl) rfl ?_ -- t4
  refine WL.y (Yl.assign rfl) rfl ?_ -- t5
  refine WL.nil ?_
  refine WC.seq ?_
  refine WC.seq ?_
  refine WC.region ?_
  refine WL.y (Yl.move rfl) rfl ?_ -- t6
  refine WL.y (Yl.gtr rfl rfl) rfl ?_ -- t7
  refine WL.know (t := 7) (b' := false) rfl (by first | rfl | (simp; done) | (simp; omega)) ?_
  refine WL.y (Yl.move rfl) rfl ?_ -- t8
  refine WL.on rfl rfl ?_
  refine WL.y (Yl.move rfl) rfl ?_ -- t9
  refine WL.on rfl rfl ?_
  refine WL.y (Yl.eql rfl rfl) rfl ?_ -- t10
  refine WL.know (t := 10) (b' := true) rfl (by first | rfl | (simp; done) | (simp; omega)) ?_
  refine WL.y (Yl.pickF rfl rfl) rfl ?_ -- t11
  refine WL.know (t := 11) (b' := true) rfl (by first | rfl | (simp; done) | (simp; omega)) ?_
  refine WL.y (Yl.move rfl) rfl ?_ -- t12
  refine WL.off rfl rfl rfl rfl ?_ -- t13
  refine WL.off rfl rfl rfl rfl ?_ -- t14
  refine WL.y (Yl.pickT rfl rfl) rfl ?_ -- t15
  refine WL.know (t := 15) (b' := true) rfl (by first | rfl | (simp; done) | (simp; omega)) ?_
  refine WL.nil ?_
  refine WC.condT rfl (by first | rfl | (simp; done) | (simp; omega)) ?_
  refine WC.seq ?_
  refine WC.region ?_
  refine WL.y (Yl.assign rfl) rfl ?_ -- t4
  refine WL.y (Yl.assign rfl) rfl ?_ -- t5
  refine WL.nil ?_
  refine WC.ret ?_
  repeat (first | (with_reducible refine peelT ?_) | (with_reducible refine peelB ?_) | (with_reducible refine peelTX ?_) | (with_reducible refine peelBX ?_) | (with_reducible refine peelBN ?_) | (with_reducible refine peelBO rfl ?_))
  exact ret2 (.inr rfl) Try.results33 rfl rfl fun w' h => ⟨(), trivial, rfl, h.sub (by repeat (first | exact TakeL.nil | (apply TakeL.cons; · repeat (first | exact Take1.head | apply Take1.tail))))⟩
theorem putT_nil (c n : Int) (x : Value) (w : World) (hw : OK w (fpL []) [] w) : Fn Try.prog 38 [.pointer none, .int .u64 c, .int .u64 n, x] [] w (fun _ : Unit => True) (fun _ => .int .i64 1) (fun _ => []) := by
  refine enterF Try.func38 rfl Try.ntmps38 rfl hw ?_
  refine WC.seq ?_
  refine WC.region ?_
  refine WL.y (Yl.assign rfl) rfl ?_ -- t8
  refine WL.nil ?_
  refine WC.seq ?_
  refine WC.seq ?_
  refine WC.region ?_
  refine WL.y (Yl.move rfl) rfl ?_ -- t11
  refine WL.y (Yl.nilEq un86 rfl rfl) rfl ?_ -- t12
  refine WL.know (t := 12) (b' := true) rfl (by first | rfl | (simp; done) | (simp; omega)) ?_
  refine WL.nil ?_
  refine WC.condT rfl (by first | rfl | (simp; done) | (simp; omega)) ?_
  refine WC.seq ?_
  refine WC.region ?_
  refine WL.y (Yl.assign rfl) rfl ?_ -- t8
  refine WL.nil ?_
  refine WC.ret ?_
  repeat (first | (with_reducible refine peelT ?_) | (with_reducible refine peelB ?_) | (with_reducible refine peelTX ?_) | (with_reducible refine peelBX ?_) | (with_reducible refine peelBN ?_) | (with_reducible refine peelBO rfl ?_))
  exact ret1 (.inr rfl) Try.results38 rfl fun w' h => ⟨(), trivial, rfl, h.sub (by repeat (first | exact TakeL.nil | (apply TakeL.cons; · repeat (first | exact Take1.head | apply Take1.tail))))⟩
theorem dueT_nil (w : World) (hw : OK w (fpL []) [] w) : Fn Try.prog 35 [.pointer none] [] w (fun _ : Unit => True) (fun _ => .tuple #[.int .u64 0, .bool false]) (fun _ => []) := by
  refine enterF Try.func35 rfl Try.ntmps35 rfl hw ?_
  refine WC.seq ?_
  refine WC.region ?_
  refine WL.y (Yl.assign rfl) rfl ?_ -- t2
  refine WL.y (Yl.assign rfl) rfl ?_ -- t3
  refine WL.nil ?_
  refine WC.seq ?_
  refine WC.seq ?_
  refine WC.region ?_
  refine WL.y (Yl.move rfl) rfl ?_ -- t4
  refine WL.y (Yl.nilEq un86 rfl rfl) rfl ?_ -- t5
  refine WL.know (t := 5) (b' := true) rfl (by first | rfl | (simp; done) | (simp; omega)) ?_
  refine WL.y (Yl.move rfl) rfl ?_ -- t6
  refine WL.off rfl rfl rfl rfl ?_ -- t7
  refine WL.off rfl rfl rfl rfl ?_ -- t8
  refine WL.off rfl rfl rfl rfl ?_ -- t9
  refine WL.off rfl rfl rfl rfl ?_ -- t10
  refine WL.off rfl rfl rfl rfl ?_ -- t11
  refine WL.off rfl rfl rfl rfl ?_ -- t12
  refine WL.y (Yl.pickT rfl rfl) rfl ?_ -- t13
  refine WL.know (t := 13) (b' := true) rfl (by first | rfl | (simp; done) | (simp; omega)) ?_
  refine WL.nil ?_
  refine WC.condT rfl (by first | rfl | (simp; done) | (simp; omega)) ?_
  refine WC.seq ?_
  refine WC.region ?_
  refine WL.y (Yl.assign rfl) rfl ?_ -- t2
  refine WL.y (Yl.assign rfl) rfl ?_ -- t3
  refine WL.nil ?_
  refine WC.ret ?_
  repeat (first | (with_reducible refine peelT ?_) | (with_reducible refine peelB ?_) | (with_reducible refine peelTX ?_) | (with_reducible refine peelBX ?_) | (with_reducible refine peelBN ?_) | (with_reducible refine peelBO rfl ?_))
  exact ret2 (.inr rfl) Try.results35 rfl rfl fun w' h => ⟨(), trivial, rfl, h.sub (by repeat (first | exact TakeL.nil | (apply TakeL.cons; · repeat (first | exact Take1.head | apply Take1.tail))))⟩
theorem nextT_nil (n : Int) (w : World) (hw : OK w (fpL []) [] w) : Fn Try.prog 34 [.pointer none, .int .u64 n] [] w (fun _ : Unit => True) (fun _ => .tuple #[.int .i64 0, .int .u64 0, .bool false, .bool false]) (fun _ => []) := by
  refine enterF Try.func34 rfl Try.ntmps34 rfl hw ?_
  refine WC.seq ?_
  refine WC.region ?_
  refine WL.y (Yl.assign rfl) rfl ?_ -- t4
  refine WL.y (Yl.assign rfl) rfl ?_ -- t5
  refine WL.y (Yl.assign rfl) rfl ?_ -- t6
  refine WL.y (Yl.assign rfl) rfl ?_ -- t7
  refine WL.nil ?_
  refine WC.seq ?_
  refine WC.seq ?_
  refine WC.region ?_
  refine WL.y (Yl.move rfl) rfl ?_ -- t11
  refine WL.callC (xs := [.tmp 11]) (cap := []) rfl rfl en35 (by repeat (first | exact TakeL.nil | (apply TakeL.cons; · repeat (first | exact Take1.head | apply Take1.tail)))) (fun w hw => dueT_nil w hw.left.here) rfl ?_ -- t12 (*hailer/jitter.Buffer[int]).Due
  rintro ⟨⟩ -
  refine WL.y (Yl.move rfl) rfl ?_ -- t10
  refine WL.y (Yl.extract rfl rfl) rfl ?_ -- t13
  refine WL.y (Yl.extract rfl rfl) rfl ?_ -- t14
  refine WL.y (Yl.assign rfl) rfl ?_ -- t8
  refine WL.y (Yl.assign rfl) rfl ?_ -- t9
  refine WL.nil ?_
  refine WC.seq ?_
  refine WC.region ?_
  refine WL.y (Yl.move rfl) rfl ?_ -- t15
  refine WL.y (Yl.not rfl) rfl ?_ -- t16
  refine WL.know (t := 16) (b' := true) rfl (by first | rfl | (simp; done) | (simp; omega)) ?_
  refine WL.y (Yl.move rfl) rfl ?_ -- t17
  refine WL.off rfl rfl rfl rfl ?_ -- t18
  refine WL.off rfl rfl rfl rfl ?_ -- t19
  refine WL.off rfl rfl rfl rfl ?_ -- t20
  refine WL.y (Yl.pickT rfl rfl) rfl ?_ -- t21
  refine WL.know (t := 21) (b' := true) rfl (by first | rfl | (simp; done) | (simp; omega)) ?_
  refine WL.nil ?_
  refine WC.condT rfl (by first | rfl | (simp; done) | (simp; omega)) ?_
  refine WC.seq ?_
  refine WC.region ?_
  refine WL.y (Yl.move rfl) rfl ?_ -- t22
  refine WL.y (Yl.assign rfl) rfl ?_ -- t4
  refine WL.y (Yl.assign rfl) rfl ?_ -- t5
  refine WL.y (Yl.assign rfl) rfl ?_ -- t6
  refine WL.y (Yl.assign rfl) rfl ?_ -- t7
  refine WL.nil ?_
  refine WC.ret ?_
  repeat (first | (with_reducible refine peelT ?_) | (with_reducible refine peelB ?_) | (with_reducible refine peelTX ?_) | (with_reducible refine peelBX ?_) | (with_reducible refine peelBN ?_) | (with_reducible refine peelBO rfl ?_))
  exact ret4 (.inr rfl) Try.results34 rfl rfl rfl rfl fun w' h => ⟨(), trivial, rfl, h.sub (by repeat (first | exact TakeL.nil | (apply TakeL.cons; · repeat (first | exact Take1.head | apply Take1.tail))))⟩
theorem sumsT_nil (w : World) (hw : OK w (fpL []) [] w) : Fn Try.prog 39 [.pointer none] [] w (fun _ : Unit => True) (fun _ => .agg (List.replicate 6 (Value.int .u64 0)).toArray) (fun _ => []) := by
  refine enterF Try.func39 rfl Try.ntmps39 rfl hw ?_
  refine WC.seq ?_
  refine WC.region ?_
  refine WL.to (To.alloc (cs := List.replicate 6 (.int .u64 0)) zr66 rfl) rfl ?_ -- t2
  intro b2
  refine WL.nil ?_
  refine WC.seq ?_
  refine WC.seq ?_
  refine WC.region ?_
  refine WL.y (Yl.move rfl) rfl ?_ -- t3
  refine WL.y (Yl.nilEq un86 rfl rfl) rfl ?_ -- t4
  refine WL.know (t := 4) (b' := true) rfl (by first | rfl | (simp; done) | (simp; omega)) ?_
  refine WL.nil ?_
  refine WC.condT rfl (by first | rfl | (simp; done) | (simp; omega)) ?_
  refine WC.seq ?_
  refine WC.region ?_
  refine WL.y (Yl.build rfl (cs := List.replicate 6 (.int .u64 0)) (fun _ => by kernel_rfl)) rfl ?_ -- t5
  refine WL.sto (Sto.agg sz66 rfl rfl (by repeat (first | exact Take1.head | apply Take1.tail)) (fun v hv => by rw [List.eq_of_mem_replicate hv]; rfl) rfl (by rfl) (by rfl)) (fun _ h => nomatch h) ?_ -- st 1
  refine WL.nil ?_
  refine WC.ret ?_
  repeat (first | (with_reducible refine peelT ?_) | (with_reducible refine peelB ?_) | (with_reducible refine peelTX ?_) | (with_reducible refine peelBX ?_) | (with_reducible refine peelBN ?_) | (with_reducible refine peelBO rfl ?_))
  exact retC1 (cs := List.replicate 6 (.int .u64 0)) (.inr rfl) Try.results39 ag66 rfl (by repeat (first | exact Take1.head | apply Take1.tail)) rfl fun w' h => ⟨(), trivial, rfl, h.sub (by repeat (first | exact TakeL.nil | (apply TakeL.cons; · repeat (first | exact Take1.head | apply Take1.tail))))⟩
theorem all1T_nil (b1 : Nat) (w : World) (hA : OK w (fpL [roR (blkR b1 86 [.pointer none])]) [roR (blkR b1 86 [.pointer none])] w) :
    Iter Try.prog 54 ([.pointer (some ⟨b1, 0, none⟩)] : List Value).toArray (fpL [roR (blkR b1 86 [.pointer none])]).rd [] w := by
  refine iter_of Try.func54 rfl Try.ntmps54 rfl hA (fun r hr k hk => by rw [List.mem_singleton.1 hr] at hk; exact hk) ?_
  intro l W g gx T0 hy
  refine WC.seq ?_
  refine WC.region ?_
  refine WL.to (To.box (cs := [.func (.yield l) #[] #[]]) rfl rfl) rfl ?_ -- t2
  intro b2
  refine WL.nil ?_
  refine WC.seq ?_
  refine WC.seq ?_
  refine WC.region ?_
  refine WL.y (Yl.loadRo on86 rfl (by repeat (first | exact Take1.head | apply Take1.tail)) (by rfl)) rfl ?_
  refine WL.y (Yl.nilEq un86 rfl rfl) rfl ?_ -- t6
  refine WL.know (t := 6) (b' := true) rfl (by first | rfl | (simp; done) | (simp; omega)) ?_
  refine WL.nil ?_
  refine WC.condT rfl (by first | rfl | (simp; done) | (simp; omega)) ?_
  refine WC.ret ?_
  repeat (first | (with_reducible refine peelT ?_) | (with_reducible refine peelB ?_) | (with_reducible refine peelTX ?_) | (with_reducible refine peelBX ?_) | (with_reducible refine peelBN ?_) | (with_reducible refine peelBO rfl ?_))
  exact itEnd (.inr rfl) Try.results54 (by repeat (first | exact Take1.head | apply Take1.tail))
theorem allT_nil (w : World) (hw : OK w (fpL []) [] w) :
    Fn Try.prog 36 [.pointer none] [] w (fun _ : Nat × (Nat → Prop) => True) (fun y => .func (.func 54) #[] #[.pointer (some ⟨y.1, 0, none⟩)]) (fun y => [itR Try.prog 54 [.pointer (some ⟨y.1, 0, none⟩)] y.2 []]) := by
  refine enterF Try.func36 rfl Try.ntmps36 rfl hw ?_
  refine WC.seq ?_
  refine WC.region ?_
  refine WL.to (To.box (cs := [.pointer none]) rfl rfl) rfl ?_ -- t1
  intro b1
  refine WL.y (Yl.assign rfl) rfl ?_ -- t2
  refine WL.nil ?_
  refine WC.seq ?_
  refine WC.region ?_
  refine WL.y (Yl.makeFunc (xs := []) (ys := [.tmp 1]) rfl rfl) rfl ?_ -- t3
  refine WL.y (Yl.assign rfl) rfl ?_ -- t2
  refine WL.nil ?_
  refine WC.ret ?_
  repeat (first | (with_reducible refine peelT ?_) | (with_reducible refine peelB ?_) | (with_reducible refine peelTX ?_) | (with_reducible refine peelBX ?_) | (with_reducible refine peelBN ?_) | (with_reducible refine peelBO rfl ?_))
  refine ret1 (.inr rfl) Try.results36 rfl fun w' hh => ⟨(b1, (fpL [roR (blkR b1 86 [.pointer none])]).rd), trivial, rfl, ?_⟩
  have hA : OK w _ ([blkR b1 86 [.pointer none]] ++ []) w' := hh.sub (by repeat (first | exact TakeL.nil | (apply TakeL.cons; · repeat (first | exact Take1.head | apply Take1.tail))))
  exact hA.toIter (all1T_nil b1 w' hA.freeze.here) (fun k hk => rd_freeze (A := [blkR b1 86 [.pointer none]]) hk)
def plA (b1 b2 : Nat) (n : Int) : List Res := [roR (blkR b1 86 [.pointer none]), roR (blkR b2 22 [.int .u64 n])]
theorem play1T_nil (b1 b2 : Nat) (n : Int) (w : World) (hA : OK w (fpL (plA b1 b2 n)) (plA b1 b2 n) w) :
    Iter Try.prog 57 ([.pointer (some ⟨b1, 0, none⟩), .pointer (some ⟨b2, 0, none⟩)] : List Value).toArray (fpL (plA b1 b2 n)).rd [] w := by
  unfold plA at hA ⊢
  have hwr : ∀ r ∈ [roR (blkR b1 86 [.pointer none]), roR (blkR b2 22 [.int .u64 n])], ∀ k, ¬ r.wr k := by
    intro r hr k hk
    simp at hr
    rcases hr with rfl | rfl <;> exact hk
  refine iter_of Try.func57 rfl Try.ntmps57 rfl hA hwr ?_
  intro l W g gx T0 hy
  refine WC.block ?_
  refine WC.loop (α := Unit) (fun _ => [(0, .func (.yield l) #[] #[]), (1, .pointer (some ⟨b1, 0, none⟩)), (2, .pointer (some ⟨b2, 0, none⟩))]) (fun _ => [gstR g 0 T0, roR (blkR b1 86 [.pointer none]), roR (blkR b2 22 [.int .u64 n])]) (fun _ => True) (fun _ => 0) () trivial ⟨(by repeat (first | exact Sub.nil | refine Sub.cons rfl ?_)), _, (by repeat (first | exact TakeL.nil | (apply TakeL.cons; · repeat (first | exact Take1.head | apply Take1.tail))))⟩ ?_
  rintro ⟨⟩ -
  refine WC.block ?_
  refine WC.seq ?_
  refine WC.region ?_
  refine WL.y (Yl.loadRo on86 rfl (by repeat (first | exact Take1.head | apply Take1.tail)) (by rfl)) rfl ?_
  refine WL.y (Yl.loadRo on22 rfl (by repeat (first | exact Take1.head | apply Take1.tail)) (by rfl)) rfl ?_
  refine WL.callC (xs := [.tmp 9, .tmp 10]) (cap := []) rfl rfl en34 (by repeat (first | exact TakeL.nil | (apply TakeL.cons; · repeat (first | exact Take1.head | apply Take1.tail)))) (fun w hw => nextT_nil n w hw.left.here) rfl ?_ -- t11 (*hailer/jitter.Buffer[int]).Next
  rintro ⟨⟩ -
  refine WL.y (Yl.move rfl) rfl ?_ -- t8
  refine WL.y (Yl.extract rfl rfl) rfl ?_ -- t12
  refine WL.y (Yl.extract rfl rfl) rfl ?_ -- t13
  refine WL.y (Yl.extract rfl rfl) rfl ?_ -- t14
  refine WL.y (Yl.extract rfl rfl) rfl ?_ -- t15
  refine WL.y (Yl.assign rfl) rfl ?_ -- t4
  refine WL.y (Yl.assign rfl) rfl ?_ -- t5
  refine WL.y (Yl.assign rfl) rfl ?_ -- t6
  refine WL.y (Yl.assign rfl) rfl ?_ -- t7
  refine WL.nil ?_
  refine WC.seq ?_
  refine WC.region ?_
  refine WL.y (Yl.move rfl) rfl ?_ -- t16
  refine WL.y (Yl.not rfl) rfl ?_ -- t17
  refine WL.know (t := 17) (b' := true) rfl (by first | rfl | (simp; done) | (simp; omega)) ?_
  refine WL.y (Yl.move rfl) rfl ?_ -- t18
  refine WL.off rfl rfl rfl rfl ?_ -- t19
  refine WL.off rfl rfl rfl rfl ?_ -- t20
  refine WL.off rfl rfl rfl rfl ?_ -- t21
  refine WL.offU rfl rfl rfl ?_ -- t22
  refine WL.offU rfl rfl rfl ?_ -- t23
  refine WL.offU rfl rfl rfl ?_ -- t24
  refine WL.offU rfl rfl rfl ?_ -- t25
  refine WL.offU rfl rfl rfl ?_ -- t26
  refine WL.off rfl rfl rfl rfl ?_ -- t27
  refine WL.y (Yl.pickT rfl rfl) rfl ?_ -- t28
  refine WL.know (t := 28) (b' := true) rfl (by first | rfl | (simp; done) | (simp; omega)) ?_
  refine WL.nil ?_
  refine WC.condT rfl (by first | rfl | (simp; done) | (simp; omega)) ?_
  refine WC.ret ?_
  repeat (first | (with_reducible refine peelT ?_) | (with_reducible refine peelB ?_) | (with_reducible refine peelTX ?_) | (with_reducible refine peelBX ?_) | (with_reducible refine peelBN ?_) | (with_reducible refine peelBO rfl ?_))
  exact itEnd (.inr rfl) Try.results57 (by repeat (first | exact Take1.head | apply Take1.tail))
theorem playT_nil (n : Int) (w : World) (hw : OK w (fpL []) [] w) :
    Fn Try.prog 37 [.pointer none, .int .u64 n] [] w (fun _ : Nat × Nat × (Nat → Prop) => True) (fun y => .func (.func 57) #[] #[.pointer (some ⟨y.1, 0, none⟩), .pointer (some ⟨y.2.1, 0, none⟩)]) (fun y => [itR Try.prog 57 [.pointer (some ⟨y.1, 0, none⟩), .pointer (some ⟨y.2.1, 0, none⟩)] y.2.2 []]) := by
  refine enterF Try.func37 rfl Try.ntmps37 rfl hw ?_
  refine WC.seq ?_
  refine WC.region ?_
  refine WL.to (To.box (cs := [.pointer none]) rfl rfl) rfl ?_ -- t2
  intro b2
  refine WL.to (To.box (cs := [.int .u64 n]) rfl rfl) rfl ?_ -- t3
  intro b3
  refine WL.y (Yl.assign rfl) rfl ?_ -- t4
  refine WL.nil ?_
  refine WC.seq ?_
  refine WC.region ?_
  refine WL.y (Yl.makeFunc (xs := []) (ys := [.tmp 2, .tmp 3]) rfl rfl) rfl ?_ -- t5
  refine WL.y (Yl.assign rfl) rfl ?_ -- t4
  refine WL.nil ?_
  refine WC.ret ?_
  repeat (first | (with_reducible refine peelT ?_) | (with_reducible refine peelB ?_) | (with_reducible refine peelTX ?_) | (with_reducible refine peelBX ?_) | (with_reducible refine peelBN ?_) | (with_reducible refine peelBO rfl ?_))
  refine ret1 (.inr rfl) Try.results37 rfl fun w' hh => ⟨(b2, b3, (fpL (plA b2 b3 n)).rd), trivial, rfl, ?_⟩
  have hA : OK w _ ([blkR b2 86 [.pointer none], blkR b3 22 [.int .u64 n]] ++ []) w' := hh.sub (by repeat (first | exact TakeL.nil | (apply TakeL.cons; · repeat (first | exact Take1.head | apply Take1.tail))))
  exact hA.toIter (play1T_nil b2 b3 n w' hA.freeze.here) (fun k hk => rd_freeze (A := [blkR b2 86 [.pointer none], blkR b3 22 [.int .u64 n]]) hk)
end Go.Proofs.Ytklbmgfpnafdlaa
