/- The log: made, appended to, gone over; whether what is gone over is this: the walks. -/
import Derived.Test.YtpjgmiemamcdhaaLogE
import Derived.Test.YtpjgmiemamcdhaaLibY
namespace Go.Proofs.Ytpjgmiemamcdhaa
open Go Go.RowKit

theorem ints_inj {k : IntKind} {a b : List Int} (h : ints k a = ints k b) : a = b := by
  unfold ints at h
  exact (List.map_inj_right (fun x y e => by injection e)).1 h
theorem eqV_ints {k : IntKind} {a b : List Int} : eqV (ints k a) (ints k b) = decide (a = b) := by
  by_cases h : a = b
  · rw [h, eqV_self]; simp
  · rw [eqV_ne (fun e => h (ints_inj e))]; simp [h]
def pId (r x : Rc) : Bool := decide (x.id = r.id)
def idLeaf : List Leaf := List.replicate 16 (some .u8)
theorem flId : Flat Try.prog 44 idLeaf := Flat.mk' 5 (by decide) (by kernel_rfl) (by kernel_rfl)
theorem fitsId {id : List Int} (hl : id.length = 16) (hb : Bytes id) : Fits1 idLeaf (ints .u8 id) := fits_ints hl hb

theorem predA (r : Rc) (hr : r.ok) (b : Nat) (w : World) (T : Pm) (hm0 : BlkS w T b 46 r.cells) : PredS Try.prog w T 44 [.pointer (some ⟨b, 0, none⟩)] Rc.ok rcV (pId r) := by
  refine ⟨en44, fun w' hc x hx => ?_⟩
  have hm : BlkS w' (fpL []) b 46 r.cells := fun w'' h2 => hm0 w'' (hc.trans' h2 (fun _ _ e => e) (by rintro i hi ⟨s, hs, _⟩; cases hs))
  have hw : OK w' (fpL []) [] w' := OK.nil _ _
  have h22 := Rc.cells_len hx.len
  have h22r := Rc.cells_len hr.len
  refine enterF Try.func44 rfl Try.ntmps44 rfl hw ?_
  refine WC.seq ?_
  refine WC.region ?_
  refine WL.to (To.box (cs := x.cells) rfl rfl) rfl ?_ -- t2
  intro b2
  refine WL.y (Yl.assign rfl) rfl ?_ -- t3
  refine WL.nil ?_
  refine WC.seq ?_
  refine WC.region ?_
  refine WL.y (Yl.field fo46_0 rfl) rfl ?_ -- t4
  refine WL.y (Yl.loadN ag44 rfl (by repeat (first | exact Take1.head | apply Take1.tail)) (leB (by rw [h22]; omega)) (Rc.cid hx.len)) rfl ?_ -- t5
  refine WL.y (Yl.field fo46_0 rfl) rfl ?_ -- t6
  refine WL.y (Yl.loadNS ag44 rfl hm (leB (by rw [h22r]; omega)) (Rc.cid hr.len)) rfl ?_ -- t7
  refine WL.y (Yl.eqA flId rfl rfl (fitsId hx.len hx.id) (fitsId hr.len hr.id)) rfl ?_
  rw [eqV_ints]
  refine WL.y (Yl.assign rfl) rfl ?_ -- t3
  refine WL.nil ?_
  refine WC.ret ?_
  repeat (first | (with_reducible refine peelT ?_) | (with_reducible refine peelB ?_) | (with_reducible refine peelTX ?_) | (with_reducible refine peelBX ?_) | (with_reducible refine peelBN ?_) | (with_reducible refine peelBO rfl ?_))
  exact ret1 (.inr rfl) Try.results44 rfl fun w' h => ⟨(), trivial, rfl, h.sub (by repeat (first | exact TakeL.nil | (apply TakeL.cons; · repeat (first | exact Take1.head | apply Take1.tail))))⟩

/-- A log. -/
def logR (bl bb : Nat) (ao : Option Addr) (cap : Nat) (xs : List Rc) : List Res := [blkR bl 87 [.pointer (some ⟨bb, 0, none⟩)], blkR bb 90 [.slice ao xs.length cap, .int .i64 4096], ownR (.slice ao xs.length cap) 46 22 xs.length (vcs rcV xs)]

theorem logNew_any (w : World) (hw : OK w (fpL []) [] w) : Fn Try.prog 17 [] [] w (fun _ : Nat × Nat => True) (fun y => .pointer (some ⟨y.1, 0, none⟩)) (fun y => logR y.1 y.2 none 0 []) := by
  refine enterF Try.func17 rfl Try.ntmps17 rfl hw ?_
  refine WC.seq ?_
  refine WC.region ?_
  refine WL.y (Yl.assign rfl) rfl ?_ -- t0
  refine WL.nil ?_
  refine WC.seq ?_
  refine WC.region ?_
  refine WL.callC (xs := [_]) (cap := []) rfl rfl en40 (by repeat (first | exact TakeL.nil | (apply TakeL.cons; · repeat (first | exact Take1.head | apply Take1.tail)))) (fun w hw => newR_any 4096 w hw.left.here) rfl ?_ -- t1 hailer/log.NewBounded[hailer/api.Record]
  rintro b1 -
  refine WL.y (Yl.build rfl (cs := [.pointer (some ⟨b1, 0, none⟩)]) (fun _ => by kernel_rfl)) rfl ?_ -- t2
  refine WL.to (To.box (cs := [.pointer (some ⟨b1, 0, none⟩)]) rfl rfl) rfl ?_ -- t3
  intro b3
  refine WL.y (Yl.assign rfl) rfl ?_ -- t0
  refine WL.nil ?_
  refine WC.ret ?_
  repeat (first | (with_reducible refine peelT ?_) | (with_reducible refine peelB ?_) | (with_reducible refine peelTX ?_) | (with_reducible refine peelBX ?_) | (with_reducible refine peelBN ?_) | (with_reducible refine peelBO rfl ?_))
  exact ret1 (.inr rfl) Try.results17 rfl fun w' h => ⟨(b3, b1), trivial, rfl, OK.sub h (B := [blkR b3 87 [.pointer (some ⟨b1, 0, none⟩)], blkR b1 90 [.slice none 0 0, .int .i64 4096], ownR (.slice none 0 0) 46 22 0 (vcs rcV [])]) (by repeat (first | exact TakeL.nil | (apply TakeL.cons; · repeat (first | exact Take1.head | apply Take1.tail))))⟩

/-- The log's records then. -/
def appF (xs : List Rc) (r : Rc) : List Rc := if mayB r then putF 4096 (xs.filter fun x => !pId r x) r else xs
def evF (xs : List Rc) (r : Rc) : Bool := mayB r && fullF (4096 : Int) (xs.filter fun x => !pId r x)

theorem append_any (bl bb : Nat) (ao : Option Addr) (cap : Nat) (xs : List Rc) (r : Rc) (hG : ROk xs) (hr : r.ok) (hl : xs.length ≤ 1000000) (w : World) (hw : OK w (fpL (logR bl bb ao cap xs)) (logR bl bb ao cap xs) w) :
    Fn Try.prog 19 [.pointer (some ⟨bl, 0, none⟩), .agg r.cells.toArray] (logR bl bb ao cap xs) w (fun _ : Option Addr × Nat => True) (fun _ => .tuple #[.bool (evF xs r), .int .i64 (if mayB r then 0 else 2)]) (fun y => logR bl bb y.1 y.2 (appF xs r)) := by
  unfold logR at hw ⊢
  have h22 := Rc.cells_len hr.len
  have hfl := List.length_filter_le (fun x => !pId r x) xs
  have hFG := hG.filter (fun x => !pId r x)
  refine enterF Try.func19 rfl Try.ntmps19 rfl hw ?_
  refine WC.seq ?_
  refine WC.region ?_
  refine WL.to (To.box (cs := r.cells) rfl rfl) rfl ?_ -- t3
  intro b3
  refine WL.y (Yl.assign rfl) rfl ?_ -- t4
  refine WL.y (Yl.assign rfl) rfl ?_ -- t5
  refine WL.nil ?_
  refine WC.seq ?_
  refine WC.block ?_
  refine WC.seq ?_
  refine WC.region ?_
  refine WL.y (Yl.move rfl) rfl ?_ -- t7
  refine WL.y (Yl.nilEq un41 rfl rfl) rfl ?_ -- t8
  refine WL.know (t := 8) (b' := false) rfl (by first | rfl | (simp; done) | (simp; omega)) ?_
  refine WL.y (Yl.assign rfl) rfl ?_ -- t6
  refine WL.nil ?_
  refine WC.condF rfl (by first | rfl | (simp; done) | (simp; omega)) ?_
  refine WC.seq ?_
  refine WC.region ?_
  refine WL.y (Yl.loadN ag46 rfl (by repeat (first | exact Take1.head | apply Take1.tail)) (leB (by rw [h22]; omega)) (Rc.call hr.len)) rfl ?_ -- t10
  refine WL.callC (xs := [.tmp 10]) (cap := []) rfl rfl en42 (by repeat (first | exact TakeL.nil | (apply TakeL.cons; · repeat (first | exact Take1.head | apply Take1.tail)))) (fun w hw => may_any r hr w hw.left.here) rfl ?_ -- t11 hailer/rec.May
  rintro ⟨⟩ -
  refine WL.y (Yl.not rfl) rfl ?_ -- t12
  refine WL.y (Yl.assign rfl) rfl ?_ -- t9
  refine WL.nil ?_
  refine WC.cond rfl (fun g9 => ?_) (fun g9 => ?_)
  · refine WC.seq ?_
    refine WC.region ?_
    refine WL.y (Yl.assign rfl) rfl ?_ -- t4
    refine WL.y (Yl.assign rfl) rfl ?_ -- t5
    refine WL.nil ?_
    refine WC.ret ?_
    repeat (first | (with_reducible refine peelT ?_) | (with_reducible refine peelB ?_) | (with_reducible refine peelTX ?_) | (with_reducible refine peelBX ?_) | (with_reducible refine peelBN ?_) | (with_reducible refine peelBO rfl ?_))
    have hm : mayB r = false := by simpa using g9
    have e1 : appF xs r = xs := by unfold appF; rw [hm]; rfl
    have e2 : evF xs r = false := by unfold evF; rw [hm]; rfl
    rw [e1, e2, hm]
    exact ret2 (.inr rfl) Try.results19 rfl rfl fun w' h => ⟨(ao, cap), trivial, rfl, h.sub (by repeat (first | exact TakeL.nil | (apply TakeL.cons; · repeat (first | exact Take1.head | apply Take1.tail))))⟩
  · refine WC.skip ?_
    refine WC.seq ?_
    refine WC.region ?_
    have hm : mayB r = true := by simpa using g9
    have e1 : appF xs r = putF 4096 (xs.filter fun x => !pId r x) r := by unfold appF; rw [if_pos hm]
    have e2 : evF xs r = fullF (4096 : Int) (xs.filter fun x => !pId r x) := by unfold evF; rw [hm, Bool.true_and]
    rw [e1, e2, hm]
    refine WL.y (Yl.move rfl) rfl ?_ -- t13
    refine WL.y (Yl.nilCheck rfl) rfl ?_ -- t14
    refine WL.y (Yl.field fo87_0 rfl) rfl ?_ -- t15
    refine WL.y (Yl.load on84 rfl (by repeat (first | exact Take1.head | apply Take1.tail)) (by rfl)) rfl ?_ -- t16
    refine WL.y (Yl.makeFunc (xs := []) (ys := [.tmp 3]) rfl rfl) rfl ?_ -- t17
    refine WL.callC (xs := [.tmp 16, .tmp 17]) (cap := []) rfl rfl en43 (by repeat (first | exact TakeL.nil | (apply TakeL.cons; · repeat (first | exact Take1.head | apply Take1.tail)))) (fun w hw => dropR_any bb 4096 ao cap xs hG 44 [.pointer (some ⟨b3, 0, none⟩)] (pId r) hl w hw.left.here (predA r hr b3 w _ (hw.srcB (A := [_, _]) (by repeat (first | exact Take1.head | apply Take1.tail))))) rfl ?_ -- t18 (*hailer/log.Bounded[hailer/api.Record]).Drop
    rintro ⟨a18, c18⟩ -
    dsimp only
    refine WL.nil ?_
    refine WC.seq ?_
    refine WC.drawAny (Hs := [blkR bl 87 [.pointer (some ⟨bb, 0, none⟩)], blkR b3 46 r.cells]) mixed (by kernel_rfl) ⟨_, (by repeat (first | exact TakeL.nil | (apply TakeL.cons; · repeat (first | exact Take1.head | apply Take1.tail))))⟩ ?_
    refine WD.take 0 rfl (by kernel_rfl) (by kernel_rfl) (by kernel_rfl) rfl rfl (Yl.move rfl) rfl ?_ -- t20
    refine WD.take 1 rfl (by kernel_rfl) (by kernel_rfl) (by kernel_rfl) rfl rfl (Yl.nilCheck rfl) rfl ?_ -- t21
    refine WD.take 2 rfl (by kernel_rfl) (by kernel_rfl) (by kernel_rfl) rfl rfl (Yl.field fo87_0 rfl) rfl ?_ -- t22
    refine WD.take 3 rfl (by kernel_rfl) (by kernel_rfl) (by kernel_rfl) rfl rfl (Yl.load on84 rfl (by repeat (first | exact Take1.head | apply Take1.tail)) (by rfl)) rfl ?_ -- t23
    refine WD.take 4 rfl (by kernel_rfl) (by kernel_rfl) (by kernel_rfl) rfl rfl (Yl.loadN ag46 rfl (by repeat (first | exact Take1.head | apply Take1.tail)) (leB (by rw [h22]; omega)) (Rc.call hr.len)) rfl ?_ -- t24
    refine WD.one 5 (by kernel_rfl) ?_
    refine WO.callC (xs := [.tmp 23, .tmp 24]) (cap := []) rfl .no rfl rfl en45 (by repeat (first | exact TakeL.nil | (apply TakeL.cons; · repeat (first | exact Take1.head | apply Take1.tail)))) (fun w hw => putR_any bb 4096 a18 c18 _ r hFG hr (by omega) w hw.left.here (by omega)) rfl (fun _ => ⟨_, (by repeat (first | exact TakeL.nil | (apply TakeL.cons; · repeat (first | exact Take1.head | apply Take1.tail))))⟩) ?_ -- t25 (*hailer/log.Bounded[hailer/api.Record]).Put
    rintro ⟨a25, c25⟩ -
    dsimp only
    refine WD.take 6 rfl (by kernel_rfl) (by kernel_rfl) (by kernel_rfl) rfl rfl (Yl.move rfl) rfl ?_ -- t19
    refine WD.take 7 rfl (by kernel_rfl) (by kernel_rfl) (by kernel_rfl) rfl rfl (Yl.extract rfl rfl) rfl ?_ -- t26
    refine WD.take 8 rfl (by kernel_rfl) (by kernel_rfl) (by kernel_rfl) rfl rfl (Yl.extract rfl rfl) rfl ?_ -- t27
    refine WD.take 9 rfl (by kernel_rfl) (by kernel_rfl) (by kernel_rfl) rfl rfl (Yl.assign rfl) rfl ?_ -- t4
    refine WD.done (by kernel_rfl) ?_
    refine WC.seq ?_
    refine WC.region ?_
    refine WL.y (Yl.move rfl) rfl ?_ -- t28
    refine WL.y (Yl.assign rfl) rfl ?_ -- t4
    refine WL.y (Yl.assign rfl) rfl ?_ -- t5
    refine WL.nil ?_
    refine WC.ret ?_
    repeat (first | (with_reducible refine peelT ?_) | (with_reducible refine peelB ?_) | (with_reducible refine peelTX ?_) | (with_reducible refine peelBX ?_) | (with_reducible refine peelBN ?_) | (with_reducible refine peelBO rfl ?_))
    exact ret2 (.inr rfl) Try.results19 rfl rfl fun w' h => ⟨(a25, c25), trivial, rfl, h.sub (by repeat (first | exact TakeL.nil | (apply TakeL.cons; · repeat (first | exact Take1.head | apply Take1.tail))))⟩

def oneF (id : Int) : Rc := ⟨id :: List.replicate 15 0, 0, false, 3, 0, 0, 0⟩
theorem oneF_ok {id : Int} (h : 0 ≤ id ∧ id < 256) : (oneF id).ok := by
  have z := zero_ok
  refine ⟨rfl, ?_, z.peer, ⟨by show (0 : Int) ≤ 3; omega, by show (3 : Int) < _; omega⟩, z.bg, z.an, z.en⟩
  intro x hx
  simp [oneF] at hx
  rcases hx with rfl | rfl
  · exact h
  · omega
theorem oneF_may (id : Int) : mayB (oneF id) = true := by simp [oneF, mayB]
set_option maxRecDepth 100000 in
theorem oneL_any (id : Int) (w : World) (hw : OK w (fpL []) [] w) : Fn Try.prog 20 [.int .u8 id] [] w (fun _ : Unit => True) (fun _ => .agg (oneF id).cells.toArray) (fun _ => []) := by
  refine enterF Try.func20 rfl Try.ntmps20 rfl hw ?_
  refine WC.seq ?_
  refine WC.region ?_
  refine WL.to (To.alloc (cs := Rc.zero.cells) zr46 rfl) rfl ?_ -- t2
  intro b2
  refine WL.nil ?_
  refine WC.seq ?_
  refine WC.region ?_
  refine WL.y (Yl.move rfl) rfl ?_ -- t3
  refine WL.y (Yl.build rfl (cs := ints .u8 (oneF id).id) (fun _ => by kernel_rfl)) rfl ?_ -- t4
  refine WL.y (Yl.build rfl (cs := (oneF id).cells) (fun _ => by kernel_rfl)) rfl ?_ -- t5
  refine WL.sto (Sto.agg sz46 rfl rfl (by repeat (first | exact Take1.head | apply Take1.tail)) (Rc.ones _) rfl (by rfl) (Rc.all (r := Rc.zero) rfl (oneF id).cells rfl)) (fun _ h => nomatch h) ?_ -- st 1
  refine WL.nil ?_
  refine WC.ret ?_
  repeat (first | (with_reducible refine peelT ?_) | (with_reducible refine peelB ?_) | (with_reducible refine peelTX ?_) | (with_reducible refine peelBX ?_) | (with_reducible refine peelBN ?_) | (with_reducible refine peelBO rfl ?_))
  exact retC1 (.inr rfl) Try.results20 ag46 rfl (by repeat (first | exact Take1.head | apply Take1.tail)) rfl fun w' h => ⟨(), trivial, rfl, h.sub (by repeat (first | exact TakeL.nil | (apply TakeL.cons; · repeat (first | exact Take1.head | apply Take1.tail))))⟩

theorem logLen_any (bl bb : Nat) (ao : Option Addr) (cap : Nat) (xs : List Rc) (w : World) (hw : OK w (fpL (logR bl bb ao cap xs)) (logR bl bb ao cap xs) w) :
    Fn Try.prog 24 [.pointer (some ⟨bl, 0, none⟩)] (logR bl bb ao cap xs) w (fun _ : Unit => True) (fun _ => .int .i64 (xs.length : Int)) (fun _ => logR bl bb ao cap xs) := by
  unfold logR at hw ⊢
  refine enterF Try.func24 rfl Try.ntmps24 rfl hw ?_
  refine WC.seq ?_
  refine WC.region ?_
  refine WL.y (Yl.assign rfl) rfl ?_ -- t2
  refine WL.nil ?_
  refine WC.seq ?_
  refine WC.seq ?_
  refine WC.region ?_
  refine WL.y (Yl.move rfl) rfl ?_ -- t3
  refine WL.y (Yl.nilEq un41 rfl rfl) rfl ?_ -- t4
  refine WL.know (t := 4) (b' := false) rfl (by first | rfl | (simp; done) | (simp; omega)) ?_
  refine WL.nil ?_
  refine WC.condF rfl (by first | rfl | (simp; done) | (simp; omega)) ?_
  refine WC.skip ?_
  refine WC.seq ?_
  refine WC.region ?_
  refine WL.y (Yl.move rfl) rfl ?_ -- t5
  refine WL.y (Yl.nilCheck rfl) rfl ?_ -- t6
  refine WL.y (Yl.field fo87_0 rfl) rfl ?_ -- t7
  refine WL.y (Yl.load on84 rfl (by repeat (first | exact Take1.head | apply Take1.tail)) (by rfl)) rfl ?_ -- t8
  refine WL.callC (xs := [.tmp 8]) (cap := []) rfl rfl en47 (by repeat (first | exact TakeL.nil | (apply TakeL.cons; · repeat (first | exact Take1.head | apply Take1.tail)))) (fun w hw => lenR_any bb 4096 ao xs.length cap w hw.left.here) rfl ?_ -- t9 (*hailer/log.Bounded[hailer/api.Record]).Len
  rintro ⟨⟩ -
  refine WL.y (Yl.assign rfl) rfl ?_ -- t2
  refine WL.nil ?_
  refine WC.ret ?_
  repeat (first | (with_reducible refine peelT ?_) | (with_reducible refine peelB ?_) | (with_reducible refine peelTX ?_) | (with_reducible refine peelBX ?_) | (with_reducible refine peelBN ?_) | (with_reducible refine peelBO rfl ?_))
  exact ret1 (.inr rfl) Try.results24 rfl fun w' h => ⟨(), trivial, rfl, h.sub (by repeat (first | exact TakeL.nil | (apply TakeL.cons; · repeat (first | exact Take1.head | apply Take1.tail))))⟩
end Go.Proofs.Ytpjgmiemamcdhaa
