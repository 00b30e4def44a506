/- Devices: their order, whether their numbers are small: the walks. -/
import Derived.Test.YtfdnnlcfolgegaaFacts
import Derived.Test.YtfdnnlcfolgegaaLibZ
import Derived.Test.YtfdnnlcfolgegaaLibQ
import Derived.Test.YtfdnnlcfolgegaaLibI
namespace Go.Proofs.Ytfdnnlcfolgegaa
open Go Go.RowKit

structure Dv where
  a : Int
  d : Int
  deriving DecidableEq
def Dv.cells (x : Dv) : List Value := [.int .u8 x.a, .int .u8 x.d]
def Dv.val (x : Dv) : Value := .agg x.cells.toArray
def Dv.ok (x : Dv) : Prop := (0 ≤ x.a ∧ x.a < 256) ∧ (0 ≤ x.d ∧ x.d < 256)
theorem Dv.ones (x : Dv) : ∀ v ∈ x.cells, v.oneCell' = true := by
  intro v hv
  simp only [Dv.cells, List.mem_cons, List.not_mem_nil, or_false] at hv
  rcases hv with rfl | rfl <;> rfl
theorem dvV : VT Try.prog 31 2 (fun _ : Dv => True) Dv.val := .agg (cel := Dv.cells) ag31 (by kernel_rfl) (by decide) (fun _ => rfl) (fun _ _ => rfl) Dv.ones
theorem dvAll {xs : List Dv} : ∀ x ∈ xs, (fun _ : Dv => True) x := fun _ _ => trivial
def Dv.big (x : Dv) : Bool := decide (8 ≤ x.a) || decide (4 ≤ x.d)
/-- The sign of a comparison. -/
def cmpF (x y : Int) : Int := if x < y then -1 else if y < x then 1 else 0
def ordF (x y : Dv) : Int := if cmpF x.a y.a ≠ 0 then cmpF x.a y.a else cmpF x.d y.d

theorem isNaN_any (x : Int) (w : World) (hw : OK w (fpL []) [] w) : Fn Try.prog 73 [.int .u8 x] [] w (fun _ : Unit => True) (fun _ => .bool false) (fun _ => []) := by
  refine enterF Try.func73 rfl Try.ntmps73 rfl hw ?_
  refine WC.seq ?_
  refine WC.region ?_
  refine WL.y (Yl.assign rfl) rfl ?_ -- t2
  refine WL.nil ?_
  refine WC.seq ?_
  refine WC.region ?_
  refine WL.y (Yl.move rfl) rfl ?_ -- t3
  refine WL.y (Yl.move rfl) rfl ?_ -- t4
  refine WL.y (Yl.neq rfl rfl) rfl ?_ -- t5
  refine WL.know (t := 5) (b' := false) rfl (by simp) ?_
  refine WL.y (Yl.assign rfl) rfl ?_ -- t2
  refine WL.nil ?_
  refine WC.ret ?_
  repeat (first | (with_reducible refine peelT ?_) | (with_reducible refine peelB ?_) | (with_reducible refine peelTX ?_) | (with_reducible refine peelBX ?_) | (with_reducible refine peelBN ?_) | (with_reducible refine peelBO rfl ?_))
  exact ret1 (.inr rfl) Try.results73 rfl fun w' h => ⟨(), trivial, rfl, h.sub (by repeat (first | exact TakeL.nil | (apply TakeL.cons; · repeat (first | exact Take1.head | apply Take1.tail))))⟩
theorem compare_any (x y : Int) (w : World) (hw : OK w (fpL []) [] w) : Fn Try.prog 54 [.int .u8 x, .int .u8 y] [] w (fun _ : Unit => True) (fun _ => .int .i64 (cmpF x y)) (fun _ => []) := by
  refine enterF Try.func54 rfl Try.ntmps54 rfl hw ?_
  refine WC.seq ?_
  refine WC.region ?_
  refine WL.y (Yl.assign rfl) rfl ?_ -- t4
  refine WL.nil ?_
  refine WC.seq ?_
  refine WC.region ?_
  refine WL.y (Yl.move rfl) rfl ?_ -- t7
  refine WL.callC (xs := [.tmp 7]) (cap := []) rfl rfl en73 (by repeat (first | exact TakeL.nil | (apply TakeL.cons; · repeat (first | exact Take1.head | apply Take1.tail)))) (fun w hw => isNaN_any x w hw.left.here) rfl ?_ -- t8 cmp.isNaN[uint8]
  rintro ⟨⟩ -
  refine WL.y (Yl.assign rfl) rfl ?_ -- t5
  refine WL.nil ?_
  refine WC.seq ?_
  refine WC.region ?_
  refine WL.y (Yl.move rfl) rfl ?_ -- t9
  refine WL.callC (xs := [.tmp 9]) (cap := []) rfl rfl en73 (by repeat (first | exact TakeL.nil | (apply TakeL.cons; · repeat (first | exact Take1.head | apply Take1.tail)))) (fun w hw => isNaN_any y w hw.left.here) rfl ?_ -- t10 cmp.isNaN[uint8]
  rintro ⟨⟩ -
  refine WL.y (Yl.assign rfl) rfl ?_ -- t6
  refine WL.nil ?_
  refine WC.seq ?_
  refine WC.seq ?_
  refine WC.region ?_
  refine WL.y (Yl.move rfl) rfl ?_ -- t11
  refine WL.nil ?_
  refine WC.condF rfl (by first | rfl | (simp; done) | (simp; omega)) ?_
  refine WC.skip ?_
  refine WC.seq ?_
  refine WC.seq ?_
  refine WC.region ?_
  refine WL.y (Yl.move rfl) rfl ?_ -- t13
  refine WL.nil ?_
  refine WC.condF rfl (by first | rfl | (simp; done) | (simp; omega)) ?_
  refine WC.skip ?_
  refine WC.seq ?_
  refine WC.seq ?_
  refine WC.region ?_
  refine WL.y (Yl.move rfl) rfl ?_ -- t14
  refine WL.y (Yl.move rfl) rfl ?_ -- t15
  refine WL.y (Yl.lss rfl rfl) rfl ?_ -- t16
  refine WL.nil ?_
  refine WC.condD rfl (fun g16 => ?_) (fun g16 => ?_)
  · refine WC.seq ?_
    refine WC.region ?_
    refine WL.y (Yl.assign rfl) rfl ?_ -- t4
    refine WL.nil ?_
    refine WC.ret ?_
    repeat (first | (with_reducible refine peelT ?_) | (with_reducible refine peelB ?_) | (with_reducible refine peelTX ?_) | (with_reducible refine peelBX ?_) | (with_reducible refine peelBN ?_) | (with_reducible refine peelBO rfl ?_))
    exact ret1 (.inr rfl) Try.results54 rfl fun w' h => ⟨(), trivial, by unfold cmpF; rw [if_pos g16], h.sub (by repeat (first | exact TakeL.nil | (apply TakeL.cons; · repeat (first | exact Take1.head | apply Take1.tail))))⟩
  · refine WC.skip ?_
    refine WC.seq ?_
    refine WC.seq ?_
    refine WC.region ?_
    refine WL.y (Yl.move rfl) rfl ?_ -- t17
    refine WL.y (Yl.move rfl) rfl ?_ -- t18
    refine WL.y (Yl.gtr rfl rfl) rfl ?_ -- t19
    refine WL.nil ?_
    refine WC.condD rfl (fun g19 => ?_) (fun g19 => ?_)
    · refine WC.seq ?_
      refine WC.region ?_
      refine WL.y (Yl.assign rfl) rfl ?_ -- t4
      refine WL.nil ?_
      refine WC.ret ?_
      repeat (first | (with_reducible refine peelT ?_) | (with_reducible refine peelB ?_) | (with_reducible refine peelTX ?_) | (with_reducible refine peelBX ?_) | (with_reducible refine peelBN ?_) | (with_reducible refine peelBO rfl ?_))
      exact ret1 (.inr rfl) Try.results54 rfl fun w' h => ⟨(), trivial, by unfold cmpF; rw [if_neg g16, if_pos g19], h.sub (by repeat (first | exact TakeL.nil | (apply TakeL.cons; · repeat (first | exact Take1.head | apply Take1.tail))))⟩
    · refine WC.skip ?_
      refine WC.seq ?_
      refine WC.region ?_
      refine WL.y (Yl.assign rfl) rfl ?_ -- t4
      refine WL.nil ?_
      refine WC.ret ?_
      repeat (first | (with_reducible refine peelT ?_) | (with_reducible refine peelB ?_) | (with_reducible refine peelTX ?_) | (with_reducible refine peelBX ?_) | (with_reducible refine peelBN ?_) | (with_reducible refine peelBO rfl ?_))
      exact ret1 (.inr rfl) Try.results54 rfl fun w' h => ⟨(), trivial, by unfold cmpF; rw [if_neg g16, if_neg g19], h.sub (by repeat (first | exact TakeL.nil | (apply TakeL.cons; · repeat (first | exact Take1.head | apply Take1.tail))))⟩
theorem or_any (x y : Int) (b : Nat) (w : World) (hb : RdS w (fpL []) (.slice (some ⟨b, 0, none⟩) 2 2) 1 2 [.int .i64 x, .int .i64 y]) (hw : OK w (fpL []) [] w) :
    Fn Try.prog 53 [.slice (some ⟨b, 0, none⟩) 2 2] [] w (fun _ : Unit => True) (fun _ => .int .i64 (if x ≠ 0 then x else y)) (fun _ => []) := by
  refine enterF Try.func53 rfl Try.ntmps53 rfl hw ?_
  refine WC.seq ?_
  refine WC.region ?_
  refine WL.y (Yl.assign rfl) rfl ?_ -- t2
  refine WL.nil ?_
  refine WC.seq ?_
  refine WC.region ?_
  refine WL.y (Yl.assign rfl) rfl ?_ -- t3
  refine WL.nil ?_
  refine WC.seq ?_
  refine WC.seq ?_
  refine WC.region ?_
  refine WL.y (Yl.move rfl) rfl ?_ -- t6
  refine WL.y (Yl.len un110 rfl) rfl ?_ -- t7
  refine WL.y (Yl.move rfl) rfl ?_ -- t8
  refine WL.nil ?_
  refine WC.block ?_
  refine WC.loop (α := Nat) (fun k => [(3, .int .i64 0), (6, .slice (some ⟨b, 0, none⟩) 2 2), (7, .int .i64 2), (8, .int .i64 (k : Int))]) (fun _ => []) (fun k => k ≤ 2 ∧ (0 < k → x = 0) ∧ (1 < k → y = 0)) (fun k => 2 - k) 0 ⟨by decide, by omega, by omega⟩ ⟨(by repeat (first | exact Sub.nil | refine Sub.cons rfl ?_)), _, (by repeat (first | exact TakeL.nil | (apply TakeL.cons; · repeat (first | exact Take1.head | apply Take1.tail))))⟩ ?_
  rintro k ⟨hk, hk0, hk1⟩
  refine WC.seq ?_
  refine WC.region ?_
  refine WL.y (Yl.lss rfl rfl) rfl ?_ -- t9
  refine WL.nil ?_
  refine WC.seq ?_
  refine WC.condD rfl (fun g9 => ?_) (fun g9 => ?_)
  · refine WC.skip ?_
    refine WC.seq ?_
    refine WC.block ?_
    refine WC.seq ?_
    refine WC.region ?_
    have hk2 : k < 2 := by omega
    obtain ⟨z, hz⟩ : ∃ z : Int, (if k = 0 then x else y) = z := ⟨_, rfl⟩
    have hzk : ([.int .i64 x, .int .i64 y] : List Value)[k]? = some (.int .i64 z) := by rw [← hz]; rcases (show k = 0 ∨ k = 1 by omega) with rfl | rfl <;> rfl
    refine WL.y (Yl.index un110 sz3 rfl rfl (Reads.s hb) rfl (by omega)) rfl ?_ -- t10
    refine WL.y (Yl.loadE on3 rfl (Reads.s hb) hzk) rfl ?_
    refine WL.y (Yl.assign rfl) rfl ?_ -- t5
    refine WL.nil ?_
    refine WC.seq ?_
    refine WC.region ?_
    refine WL.y (Yl.move rfl) rfl ?_ -- t12
    refine WL.y (Yl.move rfl) rfl ?_ -- t13
    refine WL.y (Yl.neq rfl rfl) rfl ?_ -- t14
    refine WL.nil ?_
    refine WC.condD rfl (fun g14 => ?_) (fun g14 => ?_)
    · refine WC.seq ?_
      refine WC.region ?_
      refine WL.y (Yl.move rfl) rfl ?_ -- t15
      refine WL.y (Yl.assign rfl) rfl ?_ -- t2
      refine WL.nil ?_
      refine WC.ret ?_
      repeat (first | (with_reducible refine peelT ?_) | (with_reducible refine peelB ?_) | (with_reducible refine peelTX ?_) | (with_reducible refine peelBX ?_) | (with_reducible refine peelBN ?_) | (with_reducible refine peelBO rfl ?_))
      exact ret1 (.inr rfl) Try.results53 rfl fun w' h => ⟨(), trivial, by
        rcases (show k = 0 ∨ k = 1 by omega) with rfl | rfl
        · rw [show x = z from hz, if_pos g14]
        · rw [if_neg (by rw [hk0 (by decide)]; simp), show y = z from hz], h.sub (by repeat (first | exact TakeL.nil | (apply TakeL.cons; · repeat (first | exact Take1.head | apply Take1.tail))))⟩
    · refine WC.skip ?_
      refine WC.region ?_
      refine WL.y (Yl.add rfl rfl (IntWalk.i64_in _ (by omega))) rfl ?_ -- t16
      refine WL.y (Yl.move rfl) rfl ?_ -- t8
      refine WL.nil ?_
      exact ⟨rfl, k + 1, ⟨by omega, by
        intro _
        by_cases h0 : k = 0
        · subst h0; have : x = z := hz; omega
        · exact hk0 (by omega), by
        intro h1
        obtain rfl : k = 1 := by omega
        have : y = z := hz; omega⟩, by omega, (by repeat (first | exact Sub.nil | refine Sub.cons rfl ?_)), _, (by repeat (first | exact TakeL.nil | (apply TakeL.cons; · repeat (first | exact Take1.head | apply Take1.tail))))⟩
  · refine WC.exit ?_
    refine WC.seq ?_
    refine WC.region ?_
    refine WL.y (Yl.move rfl) rfl ?_ -- t17
    refine WL.y (Yl.assign rfl) rfl ?_ -- t2
    refine WL.nil ?_
    refine WC.ret ?_
    repeat (first | (with_reducible refine peelT ?_) | (with_reducible refine peelB ?_) | (with_reducible refine peelTX ?_) | (with_reducible refine peelBX ?_) | (with_reducible refine peelBN ?_) | (with_reducible refine peelBO rfl ?_))
    obtain rfl : k = 2 := by omega
    exact ret1 (.inr rfl) Try.results53 rfl fun w' h => ⟨(), trivial, by rw [hk0 (by decide), hk1 (by decide)]; rfl, h.sub (by repeat (first | exact TakeL.nil | (apply TakeL.cons; · repeat (first | exact Take1.head | apply Take1.tail))))⟩
theorem order_any (x y : Dv) (w : World) (hw : OK w (fpL []) [] w) : Fn Try.prog 32 [x.val, y.val] [] w (fun _ : Unit => True) (fun _ => .int .i64 (ordF x y)) (fun _ => []) := by
  refine enterF Try.func32 rfl Try.ntmps32 rfl hw ?_
  refine WC.seq ?_
  refine WC.region ?_
  refine WL.to (To.box (cs := x.cells) rfl rfl) rfl ?_ -- t2
  intro b2
  refine WL.to (To.box (cs := y.cells) rfl rfl) rfl ?_ -- t3
  intro b3
  refine WL.y (Yl.assign rfl) rfl ?_ -- t4
  refine WL.nil ?_
  refine WC.seq ?_
  refine WC.drawAny (Hs := [blkR b2 31 x.cells, blkR b3 31 y.cells]) mixed (by kernel_rfl) ⟨_, (by repeat (first | exact TakeL.nil | (apply TakeL.cons; · repeat (first | exact Take1.head | apply Take1.tail))))⟩ ?_
  refine WD.take 0 rfl (by kernel_rfl) (by kernel_rfl) (by kernel_rfl) rfl rfl (Yl.field fo31_0 rfl) rfl ?_ -- t5
  refine WD.take 1 rfl (by kernel_rfl) (by kernel_rfl) (by kernel_rfl) rfl rfl (Yl.load on5 rfl (by repeat (first | exact Take1.head | apply Take1.tail)) (by rfl)) rfl ?_ -- t6
  refine WD.take 2 rfl (by kernel_rfl) (by kernel_rfl) (by kernel_rfl) rfl rfl (Yl.field fo31_0 rfl) rfl ?_ -- t7
  refine WD.take 3 rfl (by kernel_rfl) (by kernel_rfl) (by kernel_rfl) rfl rfl (Yl.load on5 rfl (by repeat (first | exact Take1.head | apply Take1.tail)) (by rfl)) rfl ?_ -- t8
  refine WD.take 5 rfl (by kernel_rfl) (by kernel_rfl) (by kernel_rfl) rfl rfl (Yl.field fo31_1 rfl) rfl ?_ -- t10
  refine WD.take 6 rfl (by kernel_rfl) (by kernel_rfl) (by kernel_rfl) rfl rfl (Yl.load on5 rfl (by repeat (first | exact Take1.head | apply Take1.tail)) (by rfl)) rfl ?_ -- t11
  refine WD.take 7 rfl (by kernel_rfl) (by kernel_rfl) (by kernel_rfl) rfl rfl (Yl.field fo31_1 rfl) rfl ?_ -- t12
  refine WD.take 8 rfl (by kernel_rfl) (by kernel_rfl) (by kernel_rfl) rfl rfl (Yl.load on5 rfl (by repeat (first | exact Take1.head | apply Take1.tail)) (by rfl)) rfl ?_ -- t13
  refine WD.one 4 (by kernel_rfl) ?_
  refine WO.callC (xs := [.tmp 6, .tmp 8]) (cap := []) rfl .no rfl rfl en54 (by repeat (first | exact TakeL.nil | (apply TakeL.cons; · repeat (first | exact Take1.head | apply Take1.tail)))) (fun w hw => compare_any x.a y.a w hw.left.here) rfl (fun _ => ⟨_, (by repeat (first | exact TakeL.nil | (apply TakeL.cons; · repeat (first | exact Take1.head | apply Take1.tail))))⟩) ?_ -- t9 cmp.Compare[uint8]
  rintro ⟨⟩ -
  refine WD.one 9 (by kernel_rfl) ?_
  refine WO.callC (xs := [.tmp 11, .tmp 13]) (cap := []) rfl .no rfl rfl en54 (by repeat (first | exact TakeL.nil | (apply TakeL.cons; · repeat (first | exact Take1.head | apply Take1.tail)))) (fun w hw => compare_any x.d y.d w hw.left.here) rfl (fun _ => ⟨_, (by repeat (first | exact TakeL.nil | (apply TakeL.cons; · repeat (first | exact Take1.head | apply Take1.tail))))⟩) ?_ -- t14 cmp.Compare[uint8]
  rintro ⟨⟩ -
  refine WD.one 10 (by kernel_rfl) ?_
  refine WO.to rfl rfl .no (To.buildSlice (vs := [.int .i64 (cmpF x.a y.a), .int .i64 (cmpF x.d y.d)]) un110 zs3 rfl rfl (by simp [Value.cells]) (by decide) (by decide)) rfl (fun _ => ⟨_, (by repeat (first | exact TakeL.nil | (apply TakeL.cons; · repeat (first | exact Take1.head | apply Take1.tail))))⟩) ?_ -- t15
  intro b15
  refine WD.one 11 (by kernel_rfl) ?_
  refine WO.callC (xs := [.tmp 15]) (cap := []) rfl .no rfl rfl en53 (by repeat (first | exact TakeL.nil | (apply TakeL.cons; · repeat (first | exact Take1.head | apply Take1.tail)))) (fun w hw => or_any (cmpF x.a y.a) (cmpF x.d y.d) b15 w (hw.src (A := []) (RdOf.blk (cs := [.int .i64 (cmpF x.a y.a), .int .i64 (cmpF x.d y.d)]) (Nat.le_refl _) (by unfold maxLen; omega) (by simp) rfl) (by repeat (first | exact Take1.head | apply Take1.tail))) hw.left.here) rfl (fun _ => ⟨_, (by repeat (first | exact TakeL.nil | (apply TakeL.cons; · repeat (first | exact Take1.head | apply Take1.tail))))⟩) ?_ -- t16 cmp.Or[int]
  rintro ⟨⟩ -
  refine WD.take 12 rfl (by kernel_rfl) (by kernel_rfl) (by kernel_rfl) rfl rfl (Yl.assign rfl) rfl ?_ -- t4
  refine WD.done (by kernel_rfl) ?_
  refine WC.ret ?_
  repeat (first | (with_reducible refine peelT ?_) | (with_reducible refine peelB ?_) | (with_reducible refine peelTX ?_) | (with_reducible refine peelBX ?_) | (with_reducible refine peelBN ?_) | (with_reducible refine peelBO rfl ?_))
  exact ret1 (.inr rfl) Try.results32 rfl fun w' h => ⟨(), trivial, rfl, h.sub (by repeat (first | exact TakeL.nil | (apply TakeL.cons; · repeat (first | exact Take1.head | apply Take1.tail))))⟩
theorem mkdev_any (a d : Int) (w : World) (hw : OK w (fpL []) [] w) : Fn Try.prog 28 [.int .u8 a, .int .u8 d] [] w (fun _ : Unit => True) (fun _ => (Dv.mk a d).val) (fun _ => []) := by
  refine enterF Try.func28 rfl Try.ntmps28 rfl hw ?_
  refine WC.seq ?_
  refine WC.region ?_
  refine WL.to (To.alloc (cs := [.int .u8 0, .int .u8 0]) zr31 rfl) rfl ?_ -- t4
  intro b4
  refine WL.nil ?_
  refine WC.seq ?_
  refine WC.region ?_
  refine WL.y (Yl.move rfl) rfl ?_ -- t5
  refine WL.y (Yl.move rfl) rfl ?_ -- t6
  refine WL.y (Yl.build rfl (cs := (Dv.mk a d).cells) (fun _ => by kernel_rfl)) rfl ?_ -- t7
  refine WL.sto (Sto.agg sz31 rfl rfl (by repeat (first | exact Take1.head | apply Take1.tail)) (Dv.ones (Dv.mk a d)) rfl (by rfl) (show _ = (Dv.mk a d).cells from rfl)) (fun _ h => nomatch h) ?_ -- st 1
  refine WL.nil ?_
  refine WC.ret ?_
  repeat (first | (with_reducible refine peelT ?_) | (with_reducible refine peelB ?_) | (with_reducible refine peelTX ?_) | (with_reducible refine peelBX ?_) | (with_reducible refine peelBN ?_) | (with_reducible refine peelBO rfl ?_))
  exact retC1 (cs := (Dv.mk a d).cells) (.inr rfl) Try.results28 ag31 rfl (by repeat (first | exact Take1.head | apply Take1.tail)) rfl fun w' h => ⟨(), trivial, rfl, h.sub (by repeat (first | exact TakeL.nil | (apply TakeL.cons; · repeat (first | exact Take1.head | apply Take1.tail))))⟩
theorem small1_any (x : Dv) (w : World) (hw : OK w (fpL []) [] w) : Fn Try.prog 58 [x.val] [] w (fun _ : Unit => True) (fun _ => .bool x.big) (fun _ => []) := by
  refine enterF Try.func58 rfl Try.ntmps58 rfl hw ?_
  refine WC.seq ?_
  refine WC.region ?_
  refine WL.to (To.box (cs := x.cells) rfl rfl) rfl ?_ -- t1
  intro b1
  refine WL.y (Yl.assign rfl) rfl ?_ -- t2
  refine WL.nil ?_
  refine WC.seq ?_
  refine WC.region ?_
  refine WL.y (Yl.field fo31_0 rfl) rfl ?_ -- t3
  refine WL.y (Yl.load on5 rfl (by repeat (first | exact Take1.head | apply Take1.tail)) (by rfl)) rfl ?_ -- t4
  refine WL.y (Yl.geq rfl rfl) rfl ?_ -- t5
  refine WL.y (Yl.move rfl) rfl ?_ -- t6
  refine WL.both (t := 6) rfl (fun g6 => ?_) (fun g6 => ?_)
  · refine WL.off rfl rfl rfl rfl ?_ -- t7
    refine WL.off rfl rfl rfl rfl ?_ -- t8
    refine WL.off rfl rfl rfl rfl ?_ -- t9
    refine WL.y (Yl.pickT rfl rfl) rfl ?_ -- t10
    refine WL.y (Yl.assign rfl) rfl ?_ -- t2
    refine WL.nil ?_
    refine WC.ret ?_
    repeat (first | (with_reducible refine peelT ?_) | (with_reducible refine peelB ?_) | (with_reducible refine peelTX ?_) | (with_reducible refine peelBX ?_) | (with_reducible refine peelBN ?_) | (with_reducible refine peelBO rfl ?_))
    exact ret1 (.inr rfl) Try.results58 rfl fun w' h => ⟨(), trivial, by unfold Dv.big; rw [show decide (8 ≤ x.a) = true from g6]; rfl, h.sub (by repeat (first | exact TakeL.nil | (apply TakeL.cons; · repeat (first | exact Take1.head | apply Take1.tail))))⟩
  · refine WL.on rfl rfl ?_
    refine WL.y (Yl.field fo31_1 rfl) rfl ?_ -- t7
    refine WL.on rfl rfl ?_
    refine WL.y (Yl.load on5 rfl (by repeat (first | exact Take1.head | apply Take1.tail)) (by rfl)) rfl ?_ -- t8
    refine WL.on rfl rfl ?_
    refine WL.y (Yl.geq rfl rfl) rfl ?_ -- t9
    refine WL.y (Yl.pickF rfl rfl) rfl ?_ -- t10
    refine WL.y (Yl.assign rfl) rfl ?_ -- t2
    refine WL.nil ?_
    refine WC.ret ?_
    repeat (first | (with_reducible refine peelT ?_) | (with_reducible refine peelB ?_) | (with_reducible refine peelTX ?_) | (with_reducible refine peelBX ?_) | (with_reducible refine peelBN ?_) | (with_reducible refine peelBO rfl ?_))
    exact ret1 (.inr rfl) Try.results58 rfl fun w' h => ⟨(), trivial, by unfold Dv.big; rw [show decide (8 ≤ x.a) = false from g6]; rfl, h.sub (by repeat (first | exact TakeL.nil | (apply TakeL.cons; · repeat (first | exact Take1.head | apply Take1.tail))))⟩
end Go.Proofs.Ytfdnnlcfolgegaa

namespace Go.Proofs.Ytfdnnlcfolgegaa
open Go Go.RowKit

theorem idxD_any (ao : Option Addr) (cap : Nat) (xs : List Dv) (p : Dv → Bool) (pf : FuncId) (hl : xs.length ≤ 140737488355328) (w : World) (hx : RdS w (fpL []) (.slice ao xs.length cap) 2 xs.length (vcs Dv.val xs)) (hp : PredS Try.prog w (fpL []) pf [] (fun _ : Dv => True) Dv.val p) (hw : OK w (fpL []) [] w) :
    Fn Try.prog 75 [.slice ao xs.length cap, .func (.func pf) #[] #[]] [] w (fun i : Int => (0 ≤ i ↔ xs.any p = true)) (fun i => .int .i64 i) (fun _ => []) := by
  refine enterF Try.func75 rfl Try.ntmps75 rfl hw ?_
  refine WC.seq ?_
  refine WC.region ?_
  refine WL.y (Yl.assign rfl) rfl ?_ -- t4
  refine WL.nil ?_
  refine WC.seq ?_
  refine WC.seq ?_
  refine WC.region ?_
  refine WL.y (Yl.move rfl) rfl ?_ -- t6
  refine WL.y (Yl.len un25 rfl) rfl ?_ -- t7
  refine WL.y (Yl.move rfl) rfl ?_ -- t8
  refine WL.nil ?_
  refine WC.block ?_
  refine WC.loop (α := Nat) (fun j => [(0, .slice ao xs.length cap), (1, .func (.func pf) #[] #[]), (7, .int .i64 (xs.length : Int)), (8, .int .i64 (j : Int))]) (fun _ => []) (fun j => j ≤ xs.length ∧ (xs.take j).any p = false) (fun j => xs.length - j) 0 ⟨Nat.zero_le _, rfl⟩ ⟨(by repeat (first | exact Sub.nil | refine Sub.cons rfl ?_)), _, (by repeat (first | exact TakeL.nil | (apply TakeL.cons; · repeat (first | exact Take1.head | apply Take1.tail))))⟩ ?_
  rintro j ⟨hj, hno⟩
  refine WC.seq ?_
  refine WC.region ?_
  refine WL.y (Yl.lss rfl rfl) rfl ?_ -- t9
  refine WL.nil ?_
  refine WC.seq ?_
  refine WC.condD rfl (fun g9 => ?_) (fun g9 => ?_)
  · refine WC.skip ?_
    refine WC.seq ?_
    refine WC.block ?_
    refine WC.seq ?_
    refine WC.region ?_
    refine WL.y (Yl.move rfl) rfl ?_ -- t10
    refine WL.y (Yl.assign rfl) rfl ?_ -- t5
    refine WL.nil ?_
    refine WC.seq ?_
    refine WC.region ?_
    obtain ⟨x, hx0⟩ : ∃ x, xs[j]? = some x := ⟨_, List.getElem?_eq_getElem (by omega)⟩
    refine WL.y (Yl.move rfl) rfl ?_ -- t11
    refine WL.y (Yl.move rfl) rfl ?_ -- t12
    refine WL.y (Yl.move rfl) rfl ?_ -- t13
    refine WL.y (Yl.index un25 sz31 rfl rfl (Reads.s hx) rfl (by omega)) rfl ?_ -- t14
    refine WL.y (Yl.loadV (j := j) (u := x) dvV dvAll rfl (Reads.s hx) rfl hx0) rfl ?_
    refine WL.callC (f := .tmp 11) (xs := [.tmp 15]) (cap := []) rfl rfl hp.en (by repeat (first | exact TakeL.nil | (apply TakeL.cons; · repeat (first | exact Take1.head | apply Take1.tail)))) (fun w hw => hp.now hw trivial) rfl ?_ -- t16
    rintro ⟨⟩ -
    refine WL.nil ?_
    refine WC.cond rfl (fun g16 => ?_) (fun g16 => ?_)
    · refine WC.seq ?_
      refine WC.region ?_
      refine WL.y (Yl.move rfl) rfl ?_ -- t17
      refine WL.y (Yl.assign rfl) rfl ?_ -- t4
      refine WL.nil ?_
      refine WC.ret ?_
      repeat (first | (with_reducible refine peelT ?_) | (with_reducible refine peelB ?_) | (with_reducible refine peelTX ?_) | (with_reducible refine peelBX ?_) | (with_reducible refine peelBN ?_) | (with_reducible refine peelBO rfl ?_))
      exact ret1 (.inr rfl) Try.results75 rfl fun w' h => ⟨(j : Int), ⟨fun _ => List.any_eq_true.2 ⟨x, List.mem_of_getElem? hx0, g16⟩, fun _ => by omega⟩, rfl, h.sub (by repeat (first | exact TakeL.nil | (apply TakeL.cons; · repeat (first | exact Take1.head | apply Take1.tail))))⟩
    · refine WC.skip ?_
      refine WC.region ?_
      refine WL.y (Yl.add rfl rfl (IntWalk.i64_in _ (by omega))) rfl ?_ -- t18
      refine WL.y (Yl.move rfl) rfl ?_ -- t8
      refine WL.nil ?_
      exact ⟨rfl, j + 1, ⟨by omega, by rw [← take_snoc _ _ _ hx0, List.any_append, hno]; simpa using g16⟩, by omega, (by repeat (first | exact Sub.nil | refine Sub.cons rfl ?_)), _, (by repeat (first | exact TakeL.nil | (apply TakeL.cons; · repeat (first | exact Take1.head | apply Take1.tail))))⟩
  · refine WC.exit ?_
    refine WC.seq ?_
    refine WC.region ?_
    refine WL.y (Yl.assign rfl) rfl ?_ -- t4
    refine WL.nil ?_
    refine WC.ret ?_
    repeat (first | (with_reducible refine peelT ?_) | (with_reducible refine peelB ?_) | (with_reducible refine peelTX ?_) | (with_reducible refine peelBX ?_) | (with_reducible refine peelBN ?_) | (with_reducible refine peelBO rfl ?_))
    have hjn : j = xs.length := by omega
    subst hjn
    rw [List.take_length] at hno
    exact ret1 (.inr rfl) Try.results75 rfl fun w' h => ⟨-1, by rw [hno]; simp, rfl, h.sub (by repeat (first | exact TakeL.nil | (apply TakeL.cons; · repeat (first | exact Take1.head | apply Take1.tail))))⟩
theorem contF_any (ao : Option Addr) (cap : Nat) (xs : List Dv) (p : Dv → Bool) (pf : FuncId) (hl : xs.length ≤ 140737488355328) (w : World) (hx : RdS w (fpL []) (.slice ao xs.length cap) 2 xs.length (vcs Dv.val xs)) (hp : PredS Try.prog w (fpL []) pf [] (fun _ : Dv => True) Dv.val p) (hw : OK w (fpL []) [] w) :
    Fn Try.prog 57 [.slice ao xs.length cap, .func (.func pf) #[] #[]] [] w (fun _ : Unit => True) (fun _ => .bool (xs.any p)) (fun _ => []) := by
  refine enterF Try.func57 rfl Try.ntmps57 rfl hw ?_
  refine WC.seq ?_
  refine WC.region ?_
  refine WL.y (Yl.assign rfl) rfl ?_ -- t4
  refine WL.nil ?_
  refine WC.seq ?_
  refine WC.region ?_
  refine WL.y (Yl.move rfl) rfl ?_ -- t5
  refine WL.y (Yl.move rfl) rfl ?_ -- t6
  refine WL.callC (xs := [.tmp 5, .tmp 6]) (cap := []) rfl rfl en75 (by repeat (first | exact TakeL.nil | (apply TakeL.cons; · repeat (first | exact Take1.head | apply Take1.tail)))) (fun w hw => idxD_any ao cap xs p pf hl w (hw.srcS (A := []) hx) (hw.srcP (A := []) hp) hw.left.here) rfl ?_ -- t7 slices.IndexFunc[[]hailer/api.Dev,hailer/api.Dev]
  intro i hi
  refine WL.y (Yl.geq rfl rfl) rfl ?_ -- t8
  refine WL.y (Yl.assign rfl) rfl ?_ -- t4
  refine WL.nil ?_
  refine WC.ret ?_
  repeat (first | (with_reducible refine peelT ?_) | (with_reducible refine peelB ?_) | (with_reducible refine peelTX ?_) | (with_reducible refine peelBX ?_) | (with_reducible refine peelBN ?_) | (with_reducible refine peelBO rfl ?_))
  exact ret1 (.inr rfl) Try.results57 rfl fun w' h => ⟨(), trivial, by
    congr 2
    cases e : xs.any p with
    | true => exact decide_eq_true (hi.2 e)
    | false => exact decide_eq_false (fun h0 => by have := hi.1 h0; rw [e] at this; cases this), h.sub (by repeat (first | exact TakeL.nil | (apply TakeL.cons; · repeat (first | exact Take1.head | apply Take1.tail))))⟩
theorem small_any (v : Value) (xs : List Dv) (hl : xs.length ≤ 140737488355328) (w : World) (hx : RdS w (fpL []) v 2 xs.length (vcs Dv.val xs)) (hw : OK w (fpL []) [] w) :
    Fn Try.prog 39 [v] [] w (fun _ : Unit => True) (fun _ => .bool (!xs.any Dv.big)) (fun _ => []) := by
  obtain ⟨al, cl, rfl, hcl, hml⟩ := hx.rd.form
  refine enterF Try.func39 rfl Try.ntmps39 rfl hw ?_
  refine WC.seq ?_
  refine WC.region ?_
  refine WL.y (Yl.assign rfl) rfl ?_ -- t2
  refine WL.nil ?_
  refine WC.seq ?_
  refine WC.region ?_
  refine WL.y (Yl.move rfl) rfl ?_ -- t3
  refine WL.callC (xs := [.tmp 3, .func 58]) (cap := []) rfl rfl en57 (by repeat (first | exact TakeL.nil | (apply TakeL.cons; · repeat (first | exact Take1.head | apply Take1.tail)))) (fun w hw => contF_any al cl xs Dv.big 58 hl w (hw.srcS (A := []) hx) ⟨en58, fun w' _ x _ => small1_any x w' (OK.nil _ _)⟩ hw.left.here) rfl ?_ -- t4 slices.ContainsFunc[[]hailer/api.Dev,hailer/api.Dev]
  rintro ⟨⟩ -
  refine WL.y (Yl.not rfl) rfl ?_ -- t5
  refine WL.y (Yl.assign rfl) rfl ?_ -- t2
  refine WL.nil ?_
  refine WC.ret ?_
  repeat (first | (with_reducible refine peelT ?_) | (with_reducible refine peelB ?_) | (with_reducible refine peelTX ?_) | (with_reducible refine peelBX ?_) | (with_reducible refine peelBN ?_) | (with_reducible refine peelBO rfl ?_))
  exact ret1 (.inr rfl) Try.results39 rfl fun w' h => ⟨(), trivial, rfl, h.sub (by repeat (first | exact TakeL.nil | (apply TakeL.cons; · repeat (first | exact Take1.head | apply Take1.tail))))⟩
end Go.Proofs.Ytfdnnlcfolgegaa

namespace Go.Proofs.Ytfdnnlcfolgegaa
open Go Go.RowKit

def Dv.key (x : Dv) : Int := x.a * 256 + x.d
theorem cmpF_lt {x y : Int} : cmpF x y < 0 ↔ x < y := by unfold cmpF; split <;> (try split) <;> omega
theorem cmpF_eq {x y : Int} : cmpF x y = 0 ↔ x = y := by unfold cmpF; split <;> (try split) <;> omega
theorem cmpF_le {x y : Int} : 0 ≤ cmpF x y ↔ y ≤ x := by unfold cmpF; split <;> (try split) <;> omega
theorem ord_key {x y : Dv} (hx : x.ok) (hy : y.ok) : ordF x y = cmpF x.key y.key := by
  obtain ⟨xa, xd⟩ := x
  obtain ⟨ya, yd⟩ := y
  obtain ⟨⟨a1, a2⟩, a3, a4⟩ := hx
  obtain ⟨⟨b1, b2⟩, b3, b4⟩ := hy
  dsimp only at *
  unfold ordF Dv.key cmpF
  dsimp only
  repeat' split
  all_goals omega
theorem key_inj {x y : Dv} (hx : x.ok) (hy : y.ok) (h : x.key = y.key) : x = y := by
  obtain ⟨xa, xd⟩ := x
  obtain ⟨ya, yd⟩ := y
  obtain ⟨⟨a1, a2⟩, a3, a4⟩ := hx
  obtain ⟨⟨b1, b2⟩, b3, b4⟩ := hy
  unfold Dv.key at h
  dsimp only at *
  obtain rfl : xa = ya := by omega
  obtain rfl : xd = yd := by omega
  rfl
def DOk (xs : List Dv) : Prop := ∀ x ∈ xs, x.ok
def Up (xs : List Dv) : Prop := xs.Pairwise fun x y => x.key < y.key
def d0 : Dv := ⟨0, 0⟩
/-- Do they rise? As the code asks. -/
def upB (xs : List Dv) : Bool := (List.range xs.length).all fun j => decide (j = 0) || decide (ordF (xs.getD (j - 1) d0) (xs.getD j d0) < 0)
theorem getD_at {xs : List Dv} {j : Nat} {x : Dv} (h : xs[j]? = some x) : xs.getD j d0 = x := by simp [List.getD, h]
theorem up_iff {xs : List Dv} (h : DOk xs) : upB xs = true ↔ Up xs := by
  unfold upB Up
  rw [List.all_eq_true]
  constructor
  · intro hh
    have key : ∀ j, j + 1 < xs.length → (xs.getD j d0).key < (xs.getD (j + 1) d0).key := by
      intro j hj
      have := hh (j + 1) (List.mem_range.2 hj)
      simp only [Nat.add_one_ne_zero, decide_false, Bool.false_or, decide_eq_true_eq, Nat.add_sub_cancel] at this
      have h1 : (xs.getD j d0).ok := by rw [getD_at (List.getElem?_eq_getElem (show j < xs.length by omega))]; exact h _ (List.getElem_mem _)
      have h2 : (xs.getD (j + 1) d0).ok := by rw [getD_at (List.getElem?_eq_getElem hj)]; exact h _ (List.getElem_mem _)
      rw [ord_key h1 h2] at this
      exact cmpF_lt.1 this
    rw [List.pairwise_iff_getElem]
    intro i j hi hj hij
    induction j with
    | zero => omega
    | succ j ih =>
      have k1 := key j hj
      rw [getD_at (List.getElem?_eq_getElem (show j < xs.length by omega)), getD_at (List.getElem?_eq_getElem hj)] at k1
      by_cases e : i = j
      · subst e; exact k1
      · have := ih (by omega) (by omega); omega
  · intro hp j hj
    have hj := List.mem_range.1 hj
    cases j with
    | zero => rfl
    | succ j =>
      have h1 : (xs.getD j d0).ok := by rw [getD_at (List.getElem?_eq_getElem (show j < xs.length by omega))]; exact h _ (List.getElem_mem _)
      have h2 : (xs.getD (j + 1) d0).ok := by rw [getD_at (List.getElem?_eq_getElem hj)]; exact h _ (List.getElem_mem _)
      simp only [Nat.add_one_ne_zero, decide_false, Bool.false_or, decide_eq_true_eq, Nat.add_sub_cancel]
      rw [ord_key h1 h2, cmpF_lt, getD_at (List.getElem?_eq_getElem (show j < xs.length by omega)), getD_at (List.getElem?_eq_getElem hj)]
      exact List.pairwise_iff_getElem.1 hp j (j + 1) (by omega) hj (by omega)
def mayF (e : Int) (xs : List Dv) : Bool := !(decide (e < 1)) && !(decide (1099511627776 < e)) && !(decide (32 < xs.length)) && !xs.any Dv.big && upB xs

/-! ### Where a device stands -/
def ltF (d : Dv) (x : Dv) : Bool := decide (x.key < d.key)
def gtF (d : Dv) (x : Dv) : Bool := decide (d.key < x.key)
def posF (xs : List Dv) (d : Dv) : Nat := (xs.filter (ltF d)).length
theorem take_pos {xs : List Dv} (h : Up xs) (d : Dv) : xs.take (posF xs d) = xs.filter (ltF d) ∧ xs.drop (posF xs d) = xs.filter (fun x => !ltF d x) := by
  induction xs with
  | nil => simp [posF]
  | cons x xs ih =>
    obtain ⟨h1, h2⟩ := List.pairwise_cons.1 h
    obtain ⟨i1, i2⟩ := ih h2
    cases hx : ltF d x with
    | true =>
      have e : posF (x :: xs) d = posF xs d + 1 := by simp [posF, hx]
      rw [e]
      simp [hx, i1, i2]
    | false =>
      have hall : ∀ y ∈ xs, ltF d y = false := fun y hy => by
        have := h1 y hy
        simp only [ltF, decide_eq_false_iff_not] at hx ⊢
        omega
      have e0 : xs.filter (ltF d) = [] := List.filter_eq_nil_iff.2 fun y hy => by simp [hall y hy]
      have e : posF (x :: xs) d = 0 := by simp [posF, hx, e0]
      rw [e]
      have e1 : xs.filter (fun x => !ltF d x) = xs := List.filter_eq_self.2 fun y hy => by simp [hall y hy]
      simp [hx, e0, e1]
theorem pos_le (xs : List Dv) (d : Dv) : posF xs d ≤ xs.length := List.length_filter_le _ _
/-- The place that a search finds. -/
theorem pos_of {xs : List Dv} (h : Up xs) {d : Dv} {i : Nat} (hi : i ≤ xs.length) (h1 : ∀ j x, j < i → xs[j]? = some x → x.key < d.key) (h2 : ∀ j x, i ≤ j → xs[j]? = some x → d.key ≤ x.key) : i = posF xs d := by
  have e : xs.filter (ltF d) = xs.take i := by
    conv => lhs; rw [← List.take_append_drop i xs]
    rw [List.filter_append]
    have a1 : (xs.take i).filter (ltF d) = xs.take i := by
      rw [List.filter_eq_self]
      intro x hx
      obtain ⟨j, hj⟩ := List.getElem?_of_mem hx
      rw [List.getElem?_take] at hj
      split at hj
      · rename_i hlt; exact decide_eq_true (h1 j x hlt hj)
      · cases hj
    have a2 : (xs.drop i).filter (ltF d) = [] := by
      rw [List.filter_eq_nil_iff]
      intro x hx
      obtain ⟨j, hj⟩ := List.getElem?_of_mem hx
      rw [List.getElem?_drop] at hj
      have := h2 _ x (by omega) hj
      simp only [ltF, decide_eq_true_eq]
      omega
    rw [a1, a2, List.append_nil]
  unfold posF
  rw [e, List.length_take]; omega
theorem pos_lt {xs : List Dv} (h : Up xs) (d : Dv) {j : Nat} {x : Dv} (hx : xs[j]? = some x) : j < posF xs d ↔ x.key < d.key := by
  obtain ⟨t1, t2⟩ := take_pos h d
  have hle := pos_le xs d
  constructor
  · intro hj
    have : x ∈ xs.take (posF xs d) := by
      apply List.mem_of_getElem? (i := j); rw [List.getElem?_take, if_pos hj]; exact hx
    rw [t1] at this
    exact of_decide_eq_true (List.mem_filter.1 this).2
  · intro hk
    apply Nat.lt_of_not_le
    intro hj
    have : x ∈ xs.drop (posF xs d) := by
      apply List.mem_of_getElem? (i := j - posF xs d); rw [List.getElem?_drop, show posF xs d + (j - posF xs d) = j by omega]; exact hx
    rw [t2] at this
    have := (List.mem_filter.1 this).2
    simp only [ltF, Bool.not_eq_true', decide_eq_false_iff_not] at this
    exact this hk
def inF (xs : List Dv) (d : Dv) : Bool := decide (d ∈ xs)
/-- Is it there? As the search tells. -/
theorem in_pos {xs : List Dv} (h : Up xs) (ho : DOk xs) {d : Dv} (hd : d.ok) : inF xs d = match xs[posF xs d]? with | some x => decide (ordF x d = 0) | none => false := by
  unfold inF
  cases hx : xs[posF xs d]? with
  | some x =>
    have hxm := List.mem_of_getElem? hx
    by_cases hk : x.key = d.key
    · have e := key_inj (ho x hxm) hd hk
      subst e
      simp [hxm, ord_key hd hd, cmpF]
    · have hn : ¬ d ∈ xs := by
        intro hm
        obtain ⟨j, hj⟩ := List.getElem?_of_mem hm
        have h1 := (pos_lt h d hj)
        have h2 := (pos_lt h d hx)
        have hj2 : ¬ j < posF xs d := fun e => by have := h1.1 e; omega
        by_cases e : j = posF xs d
        · subst e; rw [hx] at hj; cases hj; exact hk rfl
        · obtain ⟨l1, e1⟩ := List.getElem?_eq_some_iff.1 hj
          obtain ⟨l2, e2⟩ := List.getElem?_eq_some_iff.1 hx
          have := List.pairwise_iff_getElem.1 h (posF xs d) j l2 l1 (by omega)
          rw [e1, e2] at this
          have : ¬ x.key < d.key := fun e => by have := h2.2 e; omega
          omega
      rw [decide_eq_false hn]
      show false = decide (ordF x d = 0)
      rw [ord_key (ho x hxm) hd]
      exact (decide_eq_false (by rw [cmpF_eq]; exact hk)).symm
  | none =>
    refine decide_eq_false fun hm => ?_
    obtain ⟨j, hj⟩ := List.getElem?_of_mem hm
    have h1 := (pos_lt h d hj)
    have := List.getElem?_eq_none_iff.1 hx
    have := (List.getElem?_eq_some_iff.1 hj).1
    have := h1.1 (by omega)
    omega
def insF (xs : List Dv) (d : Dv) : List Dv := xs.take (posF xs d) ++ d :: xs.drop (posF xs d)
def delF (xs : List Dv) (d : Dv) : List Dv := xs.take (posF xs d) ++ xs.drop (posF xs d + 1)
theorem ins_mem {xs : List Dv} {d x : Dv} : x ∈ insF xs d ↔ x = d ∨ x ∈ xs := by
  unfold insF
  have : x ∈ xs ↔ x ∈ xs.take (posF xs d) ∨ x ∈ xs.drop (posF xs d) := by rw [← List.mem_append, List.take_append_drop]
  rw [List.mem_append, List.mem_cons, this]
  constructor
  · rintro (h | h | h)
    · exact .inr (.inl h)
    · exact .inl h
    · exact .inr (.inr h)
  · rintro (h | h | h)
    · exact .inr (.inl h)
    · exact .inl h
    · exact .inr (.inr h)
theorem ins_len {xs : List Dv} {d : Dv} : (insF xs d).length = xs.length + 1 := by
  unfold insF
  have := pos_le xs d
  rw [List.length_append, List.length_cons, List.length_take, List.length_drop]; omega
theorem ins_up {xs : List Dv} (h : Up xs) (ho : DOk xs) {d : Dv} (hd : d.ok) (hn : ¬ d ∈ xs) : Up (insF xs d) := by
  obtain ⟨t1, t2⟩ := take_pos h d
  unfold Up insF
  refine List.pairwise_append.2 ⟨h.sublist (List.take_sublist _ _), List.pairwise_cons.2 ⟨?_, h.sublist (List.drop_sublist _ _)⟩, ?_⟩
  · intro y hy
    rw [t2] at hy
    obtain ⟨hy1, hy2⟩ := List.mem_filter.1 hy
    simp only [ltF, Bool.not_eq_true', decide_eq_false_iff_not] at hy2
    have : y.key ≠ d.key := fun e => hn (by rw [← key_inj (ho y hy1) hd e]; exact hy1)
    omega
  · intro y hy z hz
    rw [t1] at hy
    have hyd : y.key < d.key := of_decide_eq_true (List.mem_filter.1 hy).2
    rcases List.mem_cons.1 hz with rfl | hz
    · exact hyd
    · rw [t2] at hz
      have := (List.mem_filter.1 hz).2
      simp only [ltF, Bool.not_eq_true', decide_eq_false_iff_not] at this
      omega
theorem pos_at {xs : List Dv} (h : Up xs) (ho : DOk xs) {d : Dv} (hd : d ∈ xs) : xs[posF xs d]? = some d := by
  have h1 := in_pos h ho (ho d hd)
  unfold inF at h1
  rw [decide_eq_true hd] at h1
  cases hx : xs[posF xs d]? with
  | none => rw [hx] at h1; cases h1
  | some x =>
    rw [hx] at h1
    have := of_decide_eq_true h1.symm
    rw [ord_key (ho x (List.mem_of_getElem? hx)) (ho d hd), cmpF_eq] at this
    rw [key_inj (ho x (List.mem_of_getElem? hx)) (ho d hd) this]
theorem del_mem {xs : List Dv} (h : Up xs) (ho : DOk xs) {d x : Dv} (hd : d ∈ xs) : x ∈ delF xs d ↔ x ∈ xs ∧ x ≠ d := by
  have hp := pos_at h ho hd
  obtain ⟨hl, he⟩ := List.getElem?_eq_some_iff.1 hp
  have e : xs = xs.take (posF xs d) ++ d :: xs.drop (posF xs d + 1) := by
    conv => lhs; rw [← List.take_append_drop (posF xs d) xs]
    rw [List.drop_eq_getElem_cons hl, he]
  have hpw : (xs.take (posF xs d) ++ d :: xs.drop (posF xs d + 1)).Pairwise (fun x y => x.key < y.key) := e ▸ h
  obtain ⟨p1, p2, p3⟩ := List.pairwise_append.1 hpw
  obtain ⟨p4, p5⟩ := List.pairwise_cons.1 p2
  unfold delF
  constructor
  · intro hx
    rcases List.mem_append.1 hx with hx | hx
    · exact ⟨List.mem_of_mem_take hx, fun e => by subst e; have := p3 x hx x (by simp); omega⟩
    · exact ⟨List.mem_of_mem_drop hx, fun e => by subst e; have := p4 x hx; omega⟩
  · rintro ⟨hx, hne⟩
    rw [e] at hx
    rcases List.mem_append.1 hx with hx | hx
    · exact List.mem_append.2 (.inl hx)
    · rcases List.mem_cons.1 hx with hx | hx
      · exact absurd hx hne
      · exact List.mem_append.2 (.inr hx)
theorem del_up {xs : List Dv} (h : Up xs) (d : Dv) : Up (delF xs d) := by
  unfold delF Up
  refine h.sublist ?_
  conv => rhs; rw [← List.take_append_drop (posF xs d) xs]
  refine List.Sublist.append (List.Sublist.refl _) ?_
  rw [← List.drop_drop]
  exact List.drop_sublist _ _
theorem del_len {xs : List Dv} (h : Up xs) (ho : DOk xs) {d : Dv} (hd : d ∈ xs) : (delF xs d).length + 1 = xs.length := by
  have := (List.getElem?_eq_some_iff.1 (pos_at h ho hd)).1
  unfold delF
  rw [List.length_append, List.length_take, List.length_drop]; omega

/-! ### One step, many steps -/
def errF (inn : Bool) (xs : List Dv) (d : Dv) : Int := if inF xs d = inn then (if inn then 6 else 4) else 0
def nxtF (inn : Bool) (xs : List Dv) (d : Dv) : List Dv := if inF xs d = inn then [] else if inn then insF xs d else delF xs d
structure Good (xs : List Dv) : Prop where
  up : Up xs
  ok : DOk xs
theorem nxt_good {inn : Bool} {xs : List Dv} {d : Dv} (h : Good xs) (hd : d.ok) : Good (nxtF inn xs d) := by
  unfold nxtF
  split
  · exact ⟨.nil, (fun x hx => nomatch hx)⟩
  · rename_i hne
    cases inn with
    | true =>
      have hn : ¬ d ∈ xs := fun e => hne (decide_eq_true e)
      exact ⟨ins_up h.up h.ok hd hn, fun x hx => by rcases ins_mem.1 hx with rfl | hx; exact hd; exact h.ok x hx⟩
    | false =>
      have hm : d ∈ xs := by
        cases hh : inF xs d with
        | true => exact of_decide_eq_true hh
        | false => exact absurd hh hne
      exact ⟨del_up h.up d, fun x hx => h.ok x ((del_mem h.up h.ok hm).1 hx).1⟩
theorem nxt_len {inn : Bool} {xs : List Dv} {d : Dv} : (nxtF inn xs d).length ≤ xs.length + 1 := by
  unfold nxtF
  split
  · simp
  · split
    · rw [ins_len]
      omega
    · unfold delF
      rw [List.length_append, List.length_take, List.length_drop]; omega
/-- What of a list was done: the error, and the members then. -/
def runF (inn : Bool) : List Dv → List Dv → Int × List Dv
  | ms, [] => (0, ms)
  | ms, d :: l => if errF inn ms d ≠ 0 then (errF inn ms d, []) else runF inn (nxtF inn ms d) l
end Go.Proofs.Ytfdnnlcfolgegaa
