/- A log that is appended to while it is gone over: the walks. -/
import Derived.Test.YtpjgmiemamcdhaaLogU
import Derived.Test.YtpjgmiemamcdhaaLibJ
namespace Go.Proofs.Ytpjgmiemamcdhaa
open Go Go.RowKit

theorem dropS_any (b : Nat) (most : Int) (ao : Option Addr) (cap : Nat) (xs : List Rc) (hG : ROk xs) (pf : FuncId) (pc : List Value) (p : Rc → Bool) (hl : xs.length ≤ 1000000) (w : World)
    (hx : RdS w (fpL [blkR b 90 [.slice ao xs.length cap, .int .i64 most]]) (.slice ao xs.length cap) 22 xs.length (vcs rcV xs)) (hw : OK w (fpL [blkR b 90 [.slice ao xs.length cap, .int .i64 most]]) [blkR b 90 [.slice ao xs.length cap, .int .i64 most]] w)
    (hp : PredS Try.prog w (fpL [blkR b 90 [.slice ao xs.length cap, .int .i64 most]]) pf pc Rc.ok rcV p) :
    Fn Try.prog 43 [.pointer (some ⟨b, 0, none⟩), .func (.func pf) #[] pc.toArray] [blkR b 90 [.slice ao xs.length cap, .int .i64 most]] w (fun _ : Option Addr × Nat => True) (fun _ => .int .i64 ((xs.length - (xs.filter fun x => !p x).length : Nat) : Int))
      (fun y => [blkR b 90 [.slice y.1 (xs.filter fun x => !p x).length y.2, .int .i64 most], ownR (.slice y.1 (xs.filter fun x => !p x).length y.2) 46 22 (xs.filter fun x => !p x).length (vcs rcV (xs.filter fun x => !p x))]) := by
  have hfl := List.length_filter_le (fun x => !p x) xs
  refine enterF Try.func43 rfl Try.ntmps43 rfl hw ?_
  refine WC.seq ?_
  refine WC.region ?_
  refine WL.y (Yl.assign rfl) rfl ?_ -- t4
  refine WL.nil ?_
  refine WC.seq ?_
  refine WC.seq ?_
  refine WC.region ?_
  refine WL.y (Yl.move rfl) rfl ?_ -- t6
  refine WL.y (Yl.nilEq un84 rfl rfl) rfl ?_ -- t7
  refine WL.know (t := 7) (b' := false) rfl (by first | rfl | (simp; done) | (simp; omega)) ?_
  refine WL.nil ?_
  refine WC.condF rfl (by first | rfl | (simp; done) | (simp; omega)) ?_
  refine WC.skip ?_
  refine WC.seq ?_
  refine WC.region ?_
  refine WL.y (Yl.move rfl) rfl ?_ -- t8
  refine WL.y (Yl.nilCheck rfl) rfl ?_ -- t9
  refine WL.y (Yl.field fo90_0 rfl) rfl ?_ -- t10
  refine WL.y (Yl.load on39 rfl (by repeat (first | exact Take1.head | apply Take1.tail)) (by rfl)) rfl ?_ -- t11
  refine WL.y (Yl.len un39 rfl) rfl ?_ -- t12
  refine WL.y (Yl.assign rfl) rfl ?_ -- t5
  refine WL.nil ?_
  refine WC.seq ?_
  refine WC.region ?_
  refine WL.y (Yl.move rfl) rfl ?_ -- t13
  refine WL.y (Yl.move rfl) rfl ?_ -- t14
  refine WL.y (Yl.nilCheck rfl) rfl ?_ -- t15
  refine WL.y (Yl.field fo90_0 rfl) rfl ?_ -- t16
  refine WL.y (Yl.load on39 rfl (by repeat (first | exact Take1.head | apply Take1.tail)) (by rfl)) rfl ?_ -- t17
  refine WL.callC (xs := [.tmp 17]) (cap := []) rfl rfl en41 (by repeat (first | exact TakeL.nil | (apply TakeL.cons; · repeat (first | exact Take1.head | apply Take1.tail)))) (fun w hw => cloneR_any _ xs hG hl w (hw.srcS (A := []) hx) hw.left.here) rfl ?_ -- t18 slices.Clone[[]hailer/api.Record,hailer/api.Record]
  rintro ⟨a18, c18⟩ -
  dsimp only
  refine WL.y (Yl.move rfl) rfl ?_ -- t19
  refine WL.callC (xs := [.tmp 18, .tmp 19]) (cap := []) rfl rfl en61 (by repeat (first | exact TakeL.nil | (apply TakeL.cons; · repeat (first | exact Take1.head | apply Take1.tail)))) (fun w hw => delR_any a18 c18 xs hG pf pc p hl w hw.left.here (hw.srcP (A := [_]) hp)) rfl ?_ -- t20 slices.DeleteFunc[[]hailer/api.Record,hailer/api.Record]
  rintro ⟨a20, c20⟩ -
  dsimp only
  refine WL.y (Yl.nilCheck rfl) rfl ?_ -- t21
  refine WL.y (Yl.field fo90_0 rfl) rfl ?_ -- t22
  refine WL.sto (Sto.one sz39 rfl rfl (by repeat (first | exact Take1.head | apply Take1.tail)) rfl (by rfl) (by rfl)) (fun _ h => nomatch h) ?_ -- st 1
  refine WL.nil ?_
  refine WC.seq ?_
  refine WC.region ?_
  refine WL.y (Yl.move rfl) rfl ?_ -- t23
  refine WL.y (Yl.move rfl) rfl ?_ -- t24
  refine WL.y (Yl.nilCheck rfl) rfl ?_ -- t25
  refine WL.y (Yl.field fo90_0 rfl) rfl ?_ -- t26
  refine WL.y (Yl.load on39 rfl (by repeat (first | exact Take1.head | apply Take1.tail)) (by rfl)) rfl ?_ -- t27
  refine WL.y (Yl.len un39 rfl) rfl ?_ -- t28
  refine WL.y (Yl.sub rfl rfl (IntWalk.i64_in _ (by omega))) rfl ?_ -- t29
  refine WL.say (t := 29) (v' := .int .i64 ((xs.length - (xs.filter fun x => !p x).length : Nat) : Int)) rfl (by (refine congrArg _ ?_; omega)) ?_
  refine WL.y (Yl.assign rfl) rfl ?_ -- t4
  refine WL.nil ?_
  refine WC.ret ?_
  repeat (first | (with_reducible refine peelT ?_) | (with_reducible refine peelB ?_) | (with_reducible refine peelTX ?_) | (with_reducible refine peelBX ?_) | (with_reducible refine peelBN ?_) | (with_reducible refine peelBO rfl ?_))
  exact ret1 (.inr rfl) Try.results43 rfl fun w' h => ⟨(a20, c20), trivial, rfl, h.sub (by repeat (first | exact TakeL.nil | (apply TakeL.cons; · repeat (first | exact Take1.head | apply Take1.tail))))⟩

/-- A log without its row. -/
def logH (bl bb : Nat) (ao : Option Addr) (n cap : Nat) : List Res := [blkR bl 87 [.pointer (some ⟨bb, 0, none⟩)], blkR bb 90 [.slice ao n cap, .int .i64 4096]]
theorem appendS_any (bl bb : Nat) (ao : Option Addr) (cap : Nat) (xs : List Rc) (r : Rc) (hG : ROk xs) (hr : r.ok) (hm : mayB r = true) (hl : xs.length ≤ 1000000) (w : World)
    (hx : RdS w (fpL (logH bl bb ao xs.length cap)) (.slice ao xs.length cap) 22 xs.length (vcs rcV xs)) (hw : OK w (fpL (logH bl bb ao xs.length cap)) (logH bl bb ao xs.length cap) w) :
    Fn Try.prog 19 [.pointer (some ⟨bl, 0, none⟩), .agg r.cells.toArray] (logH bl bb ao xs.length cap) w (fun _ : Option Addr × Nat => True) (fun _ => .tuple #[.bool (evF xs r), .int .i64 (if mayB r then 0 else 2)]) (fun y => logR bl bb y.1 y.2 (appF xs r)) := by
  unfold logH at hw hx ⊢
  unfold logR
  have h22 := Rc.cells_len hr.len
  have hfl := List.length_filter_le (fun x => !pId r x) xs
  have hFG := hG.filter (fun x => !pId r x)
  have e1 : appF xs r = putF 4096 (xs.filter fun x => !pId r x) r := by unfold appF; rw [if_pos hm]
  have e2 : evF xs r = fullF (4096 : Int) (xs.filter fun x => !pId r x) := by unfold evF; rw [hm, Bool.true_and]
  rw [e1, e2]
  refine enterF Try.func19 rfl Try.ntmps19 rfl hw ?_
  refine WC.seq ?_
  refine WC.region ?_
  refine WL.to (To.box (cs := r.cells) rfl rfl) rfl ?_ -- t3
  intro b3
  refine WL.y (Yl.assign rfl) rfl ?_ -- t4
  refine WL.y (Yl.assign rfl) rfl ?_ -- t5
  refine WL.nil ?_
  refine WC.seq ?_
  refine WC.block ?_
  refine WC.seq ?_
  refine WC.region ?_
  refine WL.y (Yl.move rfl) rfl ?_ -- t7
  refine WL.y (Yl.nilEq un41 rfl rfl) rfl ?_ -- t8
  refine WL.know (t := 8) (b' := false) rfl (by first | rfl | (simp; done) | (simp; omega)) ?_
  refine WL.y (Yl.assign rfl) rfl ?_ -- t6
  refine WL.nil ?_
  refine WC.condF rfl (by first | rfl | (simp; done) | (simp; omega)) ?_
  refine WC.seq ?_
  refine WC.region ?_
  refine WL.y (Yl.loadN ag46 rfl (by repeat (first | exact Take1.head | apply Take1.tail)) (leB (by rw [h22]; omega)) (Rc.call hr.len)) rfl ?_ -- t10
  refine WL.callC (xs := [.tmp 10]) (cap := []) rfl rfl en42 (by repeat (first | exact TakeL.nil | (apply TakeL.cons; · repeat (first | exact Take1.head | apply Take1.tail)))) (fun w hw => may_any r hr w hw.left.here) rfl ?_ -- t11 hailer/rec.May
  rintro ⟨⟩ -
  rw [hm]
  refine WL.y (Yl.not rfl) rfl ?_ -- t12
  refine WL.y (Yl.assign rfl) rfl ?_ -- t9
  refine WL.nil ?_
  refine WC.condF rfl (by first | rfl | (simp; done) | (simp; omega)) ?_
  refine WC.skip ?_
  refine WC.seq ?_
  refine WC.region ?_
  refine WL.y (Yl.move rfl) rfl ?_ -- t13
  refine WL.y (Yl.nilCheck rfl) rfl ?_ -- t14
  refine WL.y (Yl.field fo87_0 rfl) rfl ?_ -- t15
  refine WL.y (Yl.load on84 rfl (by repeat (first | exact Take1.head | apply Take1.tail)) (by rfl)) rfl ?_ -- t16
  refine WL.y (Yl.makeFunc (xs := []) (ys := [.tmp 3]) rfl rfl) rfl ?_ -- t17
  refine WL.callC (xs := [.tmp 16, .tmp 17]) (cap := []) rfl rfl en43 (by repeat (first | exact TakeL.nil | (apply TakeL.cons; · repeat (first | exact Take1.head | apply Take1.tail)))) (fun w hw => dropS_any bb 4096 ao cap xs hG 44 [.pointer (some ⟨b3, 0, none⟩)] (pId r) hl w (hw.srcS (A := [_]) hx) hw.left.here (predA r hr b3 w _ (hw.srcB (A := [_]) (by repeat (first | exact Take1.head | apply Take1.tail))))) rfl ?_ -- t18 (*hailer/log.Bounded[hailer/api.Record]).Drop
  rintro ⟨a18, c18⟩ -
  dsimp only
  refine WL.nil ?_
  refine WC.seq ?_
  refine WC.drawAny (Hs := [blkR bl 87 [.pointer (some ⟨bb, 0, none⟩)], blkR b3 46 r.cells]) mixed (by kernel_rfl) ⟨_, (by repeat (first | exact TakeL.nil | (apply TakeL.cons; · repeat (first | exact Take1.head | apply Take1.tail))))⟩ ?_
  refine WD.take 0 rfl (by kernel_rfl) (by kernel_rfl) (by kernel_rfl) rfl rfl (Yl.move rfl) rfl ?_ -- t20
  refine WD.take 1 rfl (by kernel_rfl) (by kernel_rfl) (by kernel_rfl) rfl rfl (Yl.nilCheck rfl) rfl ?_ -- t21
  refine WD.take 2 rfl (by kernel_rfl) (by kernel_rfl) (by kernel_rfl) rfl rfl (Yl.field fo87_0 rfl) rfl ?_ -- t22
  refine WD.take 3 rfl (by kernel_rfl) (by kernel_rfl) (by kernel_rfl) rfl rfl (Yl.load on84 rfl (by repeat (first | exact Take1.head | apply Take1.tail)) (by rfl)) rfl ?_ -- t23
  refine WD.take 4 rfl (by kernel_rfl) (by kernel_rfl) (by kernel_rfl) rfl rfl (Yl.loadN ag46 rfl (by repeat (first | exact Take1.head | apply Take1.tail)) (leB (by rw [h22]; omega)) (Rc.call hr.len)) rfl ?_ -- t24
  refine WD.one 5 (by kernel_rfl) ?_
  refine WO.callC (xs := [.tmp 23, .tmp 24]) (cap := []) rfl .no rfl rfl en45 (by repeat (first | exact TakeL.nil | (apply TakeL.cons; · repeat (first | exact Take1.head | apply Take1.tail)))) (fun w hw => putR_any bb 4096 a18 c18 _ r hFG hr (by omega) w hw.left.here (by omega)) rfl (fun _ => ⟨_, (by repeat (first | exact TakeL.nil | (apply TakeL.cons; · repeat (first | exact Take1.head | apply Take1.tail))))⟩) ?_ -- t25 (*hailer/log.Bounded[hailer/api.Record]).Put
  rintro ⟨a25, c25⟩ -
  dsimp only
  refine WD.take 6 rfl (by kernel_rfl) (by kernel_rfl) (by kernel_rfl) rfl rfl (Yl.move rfl) rfl ?_ -- t19
  refine WD.take 7 rfl (by kernel_rfl) (by kernel_rfl) (by kernel_rfl) rfl rfl (Yl.extract rfl rfl) rfl ?_ -- t26
  refine WD.take 8 rfl (by kernel_rfl) (by kernel_rfl) (by kernel_rfl) rfl rfl (Yl.extract rfl rfl) rfl ?_ -- t27
  refine WD.take 9 rfl (by kernel_rfl) (by kernel_rfl) (by kernel_rfl) rfl rfl (Yl.assign rfl) rfl ?_ -- t4
  refine WD.done (by kernel_rfl) ?_
  refine WC.seq ?_
  refine WC.region ?_
  refine WL.y (Yl.move rfl) rfl ?_ -- t28
  refine WL.y (Yl.assign rfl) rfl ?_ -- t4
  refine WL.y (Yl.assign rfl) rfl ?_ -- t5
  refine WL.nil ?_
  refine WC.ret ?_
  repeat (first | (with_reducible refine peelT ?_) | (with_reducible refine peelB ?_) | (with_reducible refine peelTX ?_) | (with_reducible refine peelBX ?_) | (with_reducible refine peelBN ?_) | (with_reducible refine peelBO rfl ?_))
  exact ret2 (.inr rfl) Try.results19 rfl rfl fun w' h => ⟨(a25, c25), trivial, rfl, h.sub (by repeat (first | exact TakeL.nil | (apply TakeL.cons; · repeat (first | exact Take1.head | apply Take1.tail))))⟩

theorem nwL_any (bl : Nat) (w : World) (hw : OK w (fpL []) [] w) :
    Fn Try.prog 28 [.pointer (some ⟨bl, 0, none⟩)] [] w (fun _ : Nat => True) (fun y => .func (.func 51) #[] #[.pointer (some ⟨y, 0, none⟩)]) (fun y => [blkR y 41 [.pointer (some ⟨bl, 0, none⟩)]]) := by
  refine enterF Try.func28 rfl Try.ntmps28 rfl hw ?_
  refine WC.seq ?_
  refine WC.region ?_
  refine WL.to (To.box (cs := [.pointer (some ⟨bl, 0, none⟩)]) rfl rfl) rfl ?_ -- t1
  intro b1
  refine WL.y (Yl.assign rfl) rfl ?_ -- t2
  refine WL.nil ?_
  refine WC.seq ?_
  refine WC.region ?_
  refine WL.y (Yl.makeFunc (xs := []) (ys := [.tmp 1]) rfl rfl) rfl ?_ -- t3
  refine WL.y (Yl.assign rfl) rfl ?_ -- t2
  refine WL.nil ?_
  refine WC.ret ?_
  repeat (first | (with_reducible refine peelT ?_) | (with_reducible refine peelB ?_) | (with_reducible refine peelTX ?_) | (with_reducible refine peelBX ?_) | (with_reducible refine peelBN ?_) | (with_reducible refine peelBO rfl ?_))
  exact ret1 (.inr rfl) Try.results28 rfl fun w' h => ⟨b1, trivial, rfl, h.sub (by repeat (first | exact TakeL.nil | (apply TakeL.cons; · repeat (first | exact Take1.head | apply Take1.tail))))⟩

theorem nw1_iterN (b1 bl bb : Nat) (most : Int) (al : Option Addr) (cl : Nat) (xs : List Rc) (hG : ROk xs) (hl : xs.length ≤ 1000000) (w : World) (h1 : w.heap[b1]? = some (.cells ([.pointer (some ⟨bl, 0, none⟩)] : List Value).toArray 41 (0, 0)))
    (h2 : w.heap[bl]? = some (.cells ([.pointer (some ⟨bb, 0, none⟩)] : List Value).toArray 87 (0, 0))) (h3 : w.heap[bb]? = some (.cells ([.slice al xs.length cl, .int .i64 most] : List Value).toArray 90 (0, 0))) (hr : Rd w 22 (.slice al xs.length cl) xs.length (vcs rcV xs)) :
    IterN Try.prog 51 ([.pointer (some ⟨b1, 0, none⟩)] : List Value).toArray (fpL [rdR (.slice al xs.length cl) 22 xs.length (vcs rcV xs)]).rd (ysR xs.reverse) w := by
  have hln : (ysR xs.reverse).length = xs.length := by rw [ysR_len, List.length_reverse]
  refine iter_ofMN Try.func51 rfl Try.ntmps51 rfl (rdR_one hr) ?_
  intro l W g gx T0 hT hy hgW hJ hcW hAW hdj
  have k1 := hcW.heap h1 (fun e => e)
  have k2 := hcW.heap h2 (fun e => e)
  have k3 := hcW.heap h3 (fun e => e)
  refine WC.seq ?_
  refine WC.region ?_
  refine WL.to (To.box (cs := [.func (.yield l) #[] #[]]) rfl rfl) rfl ?_ -- t2
  intro b2
  refine WL.nil ?_
  refine WC.seq ?_
  refine WC.seq ?_
  refine WC.region ?_
  refine WL.y (Yl.loadSt on41 rfl (by repeat (first | exact Take1.head | apply Take1.tail)) k1 (by rfl)) rfl ?_
  refine WL.y (Yl.nilEq un41 rfl rfl) rfl ?_ -- t6
  refine WL.know (t := 6) (b' := false) rfl (by first | rfl | (simp; done) | (simp; omega)) ?_
  refine WL.nil ?_
  refine WC.condF rfl (by first | rfl | (simp; done) | (simp; omega)) ?_
  refine WC.skip ?_
  refine WC.seq ?_
  refine WC.region ?_
  refine WL.y (Yl.loadSt on41 rfl (by repeat (first | exact Take1.head | apply Take1.tail)) k1 (by rfl)) rfl ?_
  refine WL.y (Yl.nilCheck rfl) rfl ?_ -- t8
  refine WL.y (Yl.field fo87_0 rfl) rfl ?_ -- t9
  refine WL.y (Yl.loadSt on84 rfl (by repeat (first | exact Take1.head | apply Take1.tail)) k2 (by rfl)) rfl ?_
  refine WL.y (Yl.nilCheck rfl) rfl ?_ -- t11
  refine WL.y (Yl.field fo90_0 rfl) rfl ?_ -- t12
  refine WL.y (Yl.loadSt on39 rfl (by repeat (first | exact Take1.head | apply Take1.tail)) k3 (by rfl)) rfl ?_
  refine WL.view (fun w h => h.begin (by repeat (first | exact Take1.head | apply Take1.tail)) hgW hJ hAW (fun r hr k hk => by rw [List.mem_singleton.1 hr] at hk; exact hk) hdj) ?_
  dsimp only [List.cons_append, List.nil_append]
  refine WL.callC (xs := [.tmp 13]) (cap := []) rfl rfl en52 (by repeat (first | exact TakeL.nil | (apply TakeL.cons; · repeat (first | exact Take1.head | apply Take1.tail)))) (fun w hw => bw_any _ xs hG hl w hw.left.here) rfl ?_ -- t14 slices.Backward[[]hailer/api.Record,hailer/api.Record]
  rintro ⟨bb1, own⟩ -
  refine WL.nil ?_
  refine WC.block ?_
  refine WC.range (α := Nat → Prop) (xs := bwR xs) (fun i T => [gstR g i T, blkR b2 91 [.func (.yield l) #[] #[]]]) (fun _ _ => True) T0 rfl en72 bwR_size rfl (by repeat (first | exact Take1.head | apply Take1.tail)) trivial (by repeat (first | exact TakeL.nil | (apply TakeL.cons; · repeat (first | exact Take1.head | apply Take1.tail)))) ?_ ?_
  · intro l2 i x T hx _ W2
    obtain ⟨x, hi, hx0, hxr, rfl⟩ := bwR_at hx
    have hxo := hG.get hx0
    have h22 := Rc.cells_len hxo.len
    show WC _ _ _ ((16, .agg x.cells.toArray) :: (15, .int .i64 ((xs.length - 1 - i : Nat) : Int)) :: _) _ _
    refine WC.region ?_
    refine WL.to (To.alloc (cs := Rc.zero.cells) zr46 rfl) rfl ?_ -- t4
    intro b4
    refine WL.sto (Sto.agg sz46 rfl rfl (by repeat (first | exact Take1.head | apply Take1.tail)) (Rc.ones _) h22 (by rfl) (Rc.all (r := Rc.zero) rfl x.cells h22)) (fun _ h => nomatch h) ?_ -- st 1
    refine WL.nil ?_
    repeat (first | (with_reducible refine peelT ?_) | (with_reducible refine peelB ?_) | (with_reducible refine peelTX ?_) | (with_reducible refine peelBX ?_) | (with_reducible refine peelBN ?_) | (with_reducible refine peelBO rfl ?_))
    refine fun W2 => ?_
    refine WC.block ?_
    refine WC.seq ?_
    refine WC.region ?_
    refine WL.y (Yl.load on91 rfl (by repeat (first | exact Take1.head | apply Take1.tail)) (by rfl)) rfl ?_ -- t17
    refine WL.y (Yl.loadN ag46 rfl (by repeat (first | exact Take1.head | apply Take1.tail)) (leB (by rw [h22]; omega)) (Rc.call hxo.len)) rfl ?_ -- t18
    refine WL.yield (xs := [.tmp 18]) (i := i) hy rfl rfl (ysR_get hxr) (by repeat (first | exact Take1.head | apply Take1.tail)) rfl ?_
    intro b19 T'
    refine WL.y (Yl.not rfl) rfl ?_ -- t20
    refine WL.nil ?_
    refine WC.cond rfl (fun g20 => ?_) (fun g20 => ?_)
    · refine WC.ret ?_
      repeat (first | (with_reducible refine peelT ?_) | (with_reducible refine peelB ?_) | (with_reducible refine peelTX ?_) | (with_reducible refine peelBX ?_) | (with_reducible refine peelBN ?_) | (with_reducible refine peelBO rfl ?_))
      have hb : b19 = false := by simpa using g20
      subst hb
      simp only [Bool.false_eq_true, if_false]
      refine ⟨[gstR gx i T'], _, (by repeat (first | exact TakeL.nil | (apply TakeL.cons; · repeat (first | exact Take1.head | apply Take1.tail)))), fun D => ?_⟩
      dsimp only [List.cons_append, List.nil_append]
      repeat (first | (with_reducible refine peelT ?_) | (with_reducible refine peelB ?_) | (with_reducible refine peelTX ?_) | (with_reducible refine peelBX ?_) | (with_reducible refine peelBN ?_) | (with_reducible refine peelBO rfl ?_))
      first | (refine retM.of (.cons (by repeat (first | exact Take1.head | apply Take1.tail)) .nil) ?_; rw [← hln]; exact itEnd (.inl rfl) Try.results51 (by repeat (first | exact Take1.head | apply Take1.tail))) | (refine retM.of (.cons (by repeat (first | exact Take1.head | apply Take1.tail)) .nil) ?_; exact itStop (i := i) (.inr rfl) Try.results51 (by repeat (first | exact Take1.head | apply Take1.tail)) (by rw [hln]; omega))
    · refine WC.skip ?_
      repeat (first | (with_reducible refine peelT ?_) | (with_reducible refine peelB ?_) | (with_reducible refine peelTX ?_) | (with_reducible refine peelBX ?_) | (with_reducible refine peelBN ?_) | (with_reducible refine peelBO rfl ?_))
      have hb : b19 = true := by simpa using g20
      subst hb
      simp only [if_true]
      exact ⟨[gstR g (i + 1) T', blkR b2 91 [.func (.yield l) #[] #[]]], _, (by repeat (first | exact TakeL.nil | (apply TakeL.cons; · repeat (first | exact Take1.head | apply Take1.tail)))), T', trivial, rfl⟩
  · rintro T D -
    rw [bwR_len]
    dsimp only [List.cons_append, List.nil_append]
    repeat (first | (with_reducible refine peelT ?_) | (with_reducible refine peelB ?_) | (with_reducible refine peelTX ?_) | (with_reducible refine peelBX ?_) | (with_reducible refine peelBN ?_) | (with_reducible refine peelBO rfl ?_))
    first | (refine retM.of (.cons (by repeat (first | exact Take1.head | apply Take1.tail)) .nil) ?_; rw [← hln]; exact itEnd (.inl rfl) Try.results51 (by repeat (first | exact Take1.head | apply Take1.tail))) | (refine retM.of (.cons (by repeat (first | exact Take1.head | apply Take1.tail)) .nil) ?_; exact itStop (i := i) (.inr rfl) Try.results51 (by repeat (first | exact Take1.head | apply Take1.tail)) (by rw [hln]; omega))
theorem OK.monoS {w0 : World} {S S' : Pm} {H : List Res} {w : World} (h : OK w0 S H w) (h1 : ∀ k, S.wr k → S'.wr k) (h2 : ∀ k, S.rd k → S'.rd k) : OK w0 S' H w :=
  ⟨h.chg.mono (fun k _ hk => h1 k hk), h.all, fun r hr k hk hlt => h1 k (h.loc r hr k hk hlt), fun r hr k hk hlt => h2 k (h.locF r hr k hk hlt), h.dis⟩
theorem bytesLo_any (bl bb : Nat) (ao : Option Addr) (cap : Nat) (xs : List Rc) (hG : ROk xs) (hM : ∀ x ∈ xs, mayB x = true) (hl : xs.length ≤ 1000000) (w : World) (hw : OK w (fpL (logRo bl bb ao cap xs)) (logRo bl bb ao cap xs) w) :
    Fn Try.prog 25 [.pointer (some ⟨bl, 0, none⟩)] (logRo bl bb ao cap xs) w (fun _ : Option Addr × Nat => True) (fun y => .slice y.1 (allB xs).length y.2) (fun y => [ownR (.slice y.1 (allB xs).length y.2) 5 1 (allB xs).length (ints .u8 (allB xs))]) := by
  unfold logRo at hw ⊢
  have h2 := hw.roRead (v := .slice ao xs.length cap) (e := 46) (by repeat (first | exact Take1.head | apply Take1.tail))
  have h3 : OK w _ (logRd bl bb ao cap xs) w := h2.sub (by repeat (first | exact TakeL.nil | (apply TakeL.cons; · repeat (first | exact Take1.head | apply Take1.tail))))
  refine (bytesL_any bl bb ao cap xs hG hM hl w h3.here).mono ?_
  rintro e w' ⟨x, h4, h5, h6⟩
  refine ⟨x, h4, h5, h6.monoS ?_ ?_⟩
  · rintro k ⟨r, hr, hk⟩
    unfold logRd at hr
    simp at hr
    rcases hr with rfl | rfl | rfl <;> exact hk.elim
  · rintro k ⟨r, hr, hk⟩
    unfold logRd at hr
    simp at hr
    rcases hr with rfl | rfl | rfl
    · exact ⟨_, List.mem_cons_self .., hk⟩
    · exact ⟨_, List.mem_cons_of_mem _ (List.mem_cons_self ..), hk⟩
    · exact ⟨roR (ownR (.slice ao xs.length cap) 46 22 xs.length (vcs rcV xs)), by simp, hk.1⟩
end Go.Proofs.Ytpjgmiemamcdhaa
