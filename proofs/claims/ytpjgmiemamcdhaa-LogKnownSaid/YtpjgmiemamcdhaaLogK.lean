/- The log copied, looked through, as bytes; the reference's: the walks. -/
import Derived.Test.YtpjgmiemamcdhaaLogH
import Derived.Test.YtpjgmiemamcdhaaLibR
import Derived.Test.YtpjgmiemamcdhaaRecC
import Derived.Test.YtpjgmiemamcdhaaRecS
namespace Go.Proofs.Ytpjgmiemamcdhaa
open Go Go.RowKit

/-- A log that is only read. -/
def logRo (bl bb : Nat) (ao : Option Addr) (cap : Nat) (xs : List Rc) : List Res := [roR (blkR bl 87 [.pointer (some ⟨bb, 0, none⟩)]), roR (blkR bb 90 [.slice ao xs.length cap, .int .i64 4096]), roR (ownR (.slice ao xs.length cap) 46 22 xs.length (vcs rcV xs))]
def logRd (bl bb : Nat) (ao : Option Addr) (cap : Nat) (xs : List Rc) : List Res := [roR (blkR bl 87 [.pointer (some ⟨bb, 0, none⟩)]), roR (blkR bb 90 [.slice ao xs.length cap, .int .i64 4096]), rdR (.slice ao xs.length cap) 22 xs.length (vcs rcV xs)]

theorem copyL_any (bl bb : Nat) (ao : Option Addr) (cap : Nat) (xs : List Rc) (hG : ROk xs) (hl : xs.length ≤ 1000000) (w : World) (hbl : BlkS w (fpL []) bl 87 [.pointer (some ⟨bb, 0, none⟩)]) (hbb : BlkS w (fpL []) bb 90 [.slice ao xs.length cap, .int .i64 4096]) (hx : RdS w (fpL []) (.slice ao xs.length cap) 22 xs.length (vcs rcV xs)) (hw : OK w (fpL []) [] w) :
    Fn Try.prog 18 [.pointer (some ⟨bl, 0, none⟩)] [] w (fun _ : (Nat × Nat) × (Option Addr × Nat) => True) (fun y => .pointer (some ⟨y.1.1, 0, none⟩)) (fun y => logR y.1.1 y.1.2 y.2.1 y.2.2 xs) := by
  refine enterF Try.func18 rfl Try.ntmps18 rfl hw ?_
  refine WC.seq ?_
  refine WC.region ?_
  refine WL.y (Yl.assign rfl) rfl ?_ -- t2
  refine WL.nil ?_
  refine WC.seq ?_
  refine WC.seq ?_
  refine WC.region ?_
  refine WL.y (Yl.move rfl) rfl ?_ -- t4
  refine WL.y (Yl.nilEq un41 rfl rfl) rfl ?_ -- t5
  refine WL.know (t := 5) (b' := false) rfl (by first | rfl | (simp; done) | (simp; omega)) ?_
  refine WL.nil ?_
  refine WC.condF rfl (by first | rfl | (simp; done) | (simp; omega)) ?_
  refine WC.skip ?_
  refine WC.seq ?_
  refine WC.region ?_
  refine WL.callC (xs := []) (cap := []) rfl rfl en17 (by repeat (first | exact TakeL.nil | (apply TakeL.cons; · repeat (first | exact Take1.head | apply Take1.tail)))) (fun w hw => logNew_any w hw.left.here) rfl ?_ -- t6 hailer/log.New
  rintro ⟨bl2, bb2⟩ -
  dsimp only [logR, List.cons_append, List.nil_append]
  refine WL.y (Yl.assign rfl) rfl ?_ -- t3
  refine WL.nil ?_
  refine WC.seq ?_
  refine WC.drawAny (Hs := [blkR bl2 87 [.pointer (some ⟨bb2, 0, none⟩)]]) mixed (by kernel_rfl) ⟨_, (by repeat (first | exact TakeL.nil | (apply TakeL.cons; · repeat (first | exact Take1.head | apply Take1.tail))))⟩ ?_
  refine WD.take 0 rfl (by kernel_rfl) (by kernel_rfl) (by kernel_rfl) rfl rfl (Yl.move rfl) rfl ?_ -- t7
  refine WD.take 1 rfl (by kernel_rfl) (by kernel_rfl) (by kernel_rfl) rfl rfl (Yl.nilCheck rfl) rfl ?_ -- t8
  refine WD.take 2 rfl (by kernel_rfl) (by kernel_rfl) (by kernel_rfl) rfl rfl (Yl.field fo87_0 rfl) rfl ?_ -- t9
  refine WD.take 3 rfl (by kernel_rfl) (by kernel_rfl) (by kernel_rfl) rfl rfl (Yl.load on84 rfl (by repeat (first | exact Take1.head | apply Take1.tail)) (by rfl)) rfl ?_ -- t10
  refine WD.take 4 rfl (by kernel_rfl) (by kernel_rfl) (by kernel_rfl) rfl rfl (Yl.move rfl) rfl ?_ -- t11
  refine WD.take 5 rfl (by kernel_rfl) (by kernel_rfl) (by kernel_rfl) rfl rfl (Yl.nilCheck rfl) rfl ?_ -- t12
  refine WD.take 6 rfl (by kernel_rfl) (by kernel_rfl) (by kernel_rfl) rfl rfl (Yl.field fo87_0 rfl) rfl ?_ -- t13
  refine WD.take 7 rfl (by kernel_rfl) (by kernel_rfl) (by kernel_rfl) rfl rfl (Yl.loadS on84 rfl hbl rfl) rfl ?_
  refine WD.take 8 rfl (by kernel_rfl) (by kernel_rfl) (by kernel_rfl) rfl rfl (Yl.nilCheck rfl) rfl ?_ -- t15
  refine WD.take 9 rfl (by kernel_rfl) (by kernel_rfl) (by kernel_rfl) rfl rfl (Yl.field fo90_0 rfl) rfl ?_ -- t16
  refine WD.take 10 rfl (by kernel_rfl) (by kernel_rfl) (by kernel_rfl) rfl rfl (Yl.loadS on39 rfl hbb rfl) rfl ?_
  refine WD.one 11 (by kernel_rfl) ?_
  refine WO.callC (xs := [.tmp 17]) (cap := []) rfl .no rfl rfl en41 (by repeat (first | exact TakeL.nil | (apply TakeL.cons; · repeat (first | exact Take1.head | apply Take1.tail)))) (fun w hw => cloneR_any _ xs hG hl w (hw.srcS (A := []) hx) hw.left.here) rfl (fun _ => ⟨_, (by repeat (first | exact TakeL.nil | (apply TakeL.cons; · repeat (first | exact Take1.head | apply Take1.tail))))⟩) ?_ -- t18 slices.Clone[[]hailer/api.Record,hailer/api.Record]
  rintro ⟨a18, c18⟩ -
  dsimp only
  refine WD.take 12 rfl (by kernel_rfl) (by kernel_rfl) (by kernel_rfl) rfl rfl (Yl.nilCheck rfl) rfl ?_ -- t19
  refine WD.take 13 rfl (by kernel_rfl) (by kernel_rfl) (by kernel_rfl) rfl rfl (Yl.field fo90_0 rfl) rfl ?_ -- t20
  refine WD.one 14 (by kernel_rfl) ?_
  refine WO.sto rfl rfl .no (Sto.one sz39 rfl rfl (by repeat (first | exact Take1.head | apply Take1.tail)) rfl (by rfl) (by rfl)) ⟨_, (by repeat (first | exact TakeL.nil | (apply TakeL.cons; · repeat (first | exact Take1.head | apply Take1.tail))))⟩ ?_ -- st 1
  refine WD.done (by kernel_rfl) ?_
  refine WC.seq ?_
  refine WC.region ?_
  refine WL.y (Yl.move rfl) rfl ?_ -- t21
  refine WL.y (Yl.assign rfl) rfl ?_ -- t2
  refine WL.nil ?_
  refine WC.ret ?_
  repeat (first | (with_reducible refine peelT ?_) | (with_reducible refine peelB ?_) | (with_reducible refine peelTX ?_) | (with_reducible refine peelBX ?_) | (with_reducible refine peelBN ?_) | (with_reducible refine peelBO rfl ?_))
  exact ret1 (.inr rfl) Try.results18 rfl fun w' h => ⟨((bl2, bb2), (a18, c18)), trivial, rfl, OK.sub h (B := [blkR bl2 87 [.pointer (some ⟨bb2, 0, none⟩)], blkR bb2 90 [.slice a18 xs.length c18, .int .i64 4096], ownR (.slice a18 xs.length c18) 46 22 xs.length (vcs rcV xs)]) (by repeat (first | exact TakeL.nil | (apply TakeL.cons; · repeat (first | exact Take1.head | apply Take1.tail))))⟩
theorem lenRS_any (bb : Nat) (ao : Option Addr) (n cap : Nat) (w : World) (hbb : BlkS w (fpL []) bb 90 [.slice ao n cap, .int .i64 4096]) (hw : OK w (fpL []) [] w) :
    Fn Try.prog 47 [.pointer (some ⟨bb, 0, none⟩)] [] w (fun _ : Unit => True) (fun _ => .int .i64 (n : Int)) (fun _ => []) := by
  refine enterF Try.func47 rfl Try.ntmps47 rfl hw ?_
  refine WC.seq ?_
  refine WC.region ?_
  refine WL.y (Yl.assign rfl) rfl ?_ -- t2
  refine WL.nil ?_
  refine WC.seq ?_
  refine WC.seq ?_
  refine WC.region ?_
  refine WL.y (Yl.move rfl) rfl ?_ -- t3
  refine WL.y (Yl.nilEq un84 rfl rfl) rfl ?_ -- t4
  refine WL.know (t := 4) (b' := false) rfl (by first | rfl | (simp; done) | (simp; omega)) ?_
  refine WL.nil ?_
  refine WC.condF rfl (by first | rfl | (simp; done) | (simp; omega)) ?_
  refine WC.skip ?_
  refine WC.seq ?_
  refine WC.region ?_
  refine WL.y (Yl.move rfl) rfl ?_ -- t5
  refine WL.y (Yl.nilCheck rfl) rfl ?_ -- t6
  refine WL.y (Yl.field fo90_0 rfl) rfl ?_ -- t7
  refine WL.y (Yl.loadS on39 rfl hbb rfl) rfl ?_
  refine WL.y (Yl.len un39 rfl) rfl ?_ -- t9
  refine WL.y (Yl.assign rfl) rfl ?_ -- t2
  refine WL.nil ?_
  refine WC.ret ?_
  repeat (first | (with_reducible refine peelT ?_) | (with_reducible refine peelB ?_) | (with_reducible refine peelTX ?_) | (with_reducible refine peelBX ?_) | (with_reducible refine peelBN ?_) | (with_reducible refine peelBO rfl ?_))
  exact ret1 (.inr rfl) Try.results47 rfl fun w' h => ⟨(), trivial, rfl, h.sub (by repeat (first | exact TakeL.nil | (apply TakeL.cons; · repeat (first | exact Take1.head | apply Take1.tail))))⟩
theorem logLenS_any (bl bb : Nat) (ao : Option Addr) (n cap : Nat) (w : World) (hbl : BlkS w (fpL []) bl 87 [.pointer (some ⟨bb, 0, none⟩)]) (hbb : BlkS w (fpL []) bb 90 [.slice ao n cap, .int .i64 4096]) (hw : OK w (fpL []) [] w) :
    Fn Try.prog 24 [.pointer (some ⟨bl, 0, none⟩)] [] w (fun _ : Unit => True) (fun _ => .int .i64 (n : Int)) (fun _ => []) := by
  refine enterF Try.func24 rfl Try.ntmps24 rfl hw ?_
  refine WC.seq ?_
  refine WC.region ?_
  refine WL.y (Yl.assign rfl) rfl ?_ -- t2
  refine WL.nil ?_
  refine WC.seq ?_
  refine WC.seq ?_
  refine WC.region ?_
  refine WL.y (Yl.move rfl) rfl ?_ -- t3
  refine WL.y (Yl.nilEq un41 rfl rfl) rfl ?_ -- t4
  refine WL.know (t := 4) (b' := false) rfl (by first | rfl | (simp; done) | (simp; omega)) ?_
  refine WL.nil ?_
  refine WC.condF rfl (by first | rfl | (simp; done) | (simp; omega)) ?_
  refine WC.skip ?_
  refine WC.seq ?_
  refine WC.region ?_
  refine WL.y (Yl.move rfl) rfl ?_ -- t5
  refine WL.y (Yl.nilCheck rfl) rfl ?_ -- t6
  refine WL.y (Yl.field fo87_0 rfl) rfl ?_ -- t7
  refine WL.y (Yl.loadS on84 rfl hbl rfl) rfl ?_
  refine WL.callC (xs := [.tmp 8]) (cap := []) rfl rfl en47 (by repeat (first | exact TakeL.nil | (apply TakeL.cons; · repeat (first | exact Take1.head | apply Take1.tail)))) (fun w hw => lenRS_any bb ao n cap w (hw.srcBS (A := []) hbb) hw.left.here) rfl ?_ -- t9 (*hailer/log.Bounded[hailer/api.Record]).Len
  rintro ⟨⟩ -
  refine WL.y (Yl.assign rfl) rfl ?_ -- t2
  refine WL.nil ?_
  refine WC.ret ?_
  repeat (first | (with_reducible refine peelT ?_) | (with_reducible refine peelB ?_) | (with_reducible refine peelTX ?_) | (with_reducible refine peelBX ?_) | (with_reducible refine peelBN ?_) | (with_reducible refine peelBO rfl ?_))
  exact ret1 (.inr rfl) Try.results24 rfl fun w' h => ⟨(), trivial, rfl, h.sub (by repeat (first | exact TakeL.nil | (apply TakeL.cons; · repeat (first | exact Take1.head | apply Take1.tail))))⟩

theorem nwRd_any (bl bb : Nat) (ao : Option Addr) (cap : Nat) (xs : List Rc) (hG : ROk xs) (hl : xs.length ≤ 1000000) (w : World) (hw : OK w (fpL (logRd bl bb ao cap xs)) (logRd bl bb ao cap xs) w) :
    Fn Try.prog 28 [.pointer (some ⟨bl, 0, none⟩)] (logRd bl bb ao cap xs) w (fun _ : Nat × (Nat → Prop) => True) (fun y => .func (.func 51) #[] #[.pointer (some ⟨y.1, 0, none⟩)]) (fun y => [itR Try.prog 51 [.pointer (some ⟨y.1, 0, none⟩)] y.2 (ysR xs.reverse)]) := by
  unfold logRd at hw ⊢
  refine enterF Try.func28 rfl Try.ntmps28 rfl hw ?_
  refine WC.seq ?_
  refine WC.region ?_
  refine WL.to (To.box (cs := [.pointer (some ⟨bl, 0, none⟩)]) rfl rfl) rfl ?_ -- t1
  intro b1
  refine WL.y (Yl.assign rfl) rfl ?_ -- t2
  refine WL.nil ?_
  refine WC.seq ?_
  refine WC.region ?_
  refine WL.y (Yl.makeFunc (xs := []) (ys := [.tmp 1]) rfl rfl) rfl ?_ -- t3
  refine WL.y (Yl.assign rfl) rfl ?_ -- t2
  refine WL.nil ?_
  refine WC.ret ?_
  repeat (first | (with_reducible refine peelT ?_) | (with_reducible refine peelB ?_) | (with_reducible refine peelTX ?_) | (with_reducible refine peelBX ?_) | (with_reducible refine peelBN ?_) | (with_reducible refine peelBO rfl ?_))
  refine ret1 (.inr rfl) Try.results28 rfl fun w' hh => ⟨(b1, (fpL (nwA b1 bl bb 4096 (.slice ao xs.length cap) xs)).rd), trivial, rfl, ?_⟩
  have hA : OK w _ ([blkR b1 41 [.pointer (some ⟨bl, 0, none⟩)], roR (blkR bl 87 [.pointer (some ⟨bb, 0, none⟩)]), roR (blkR bb 90 [.slice ao xs.length cap, .int .i64 4096]), rdR (.slice ao xs.length cap) 22 xs.length (vcs rcV xs)] ++ []) w' := hh.sub (by repeat (first | exact TakeL.nil | (apply TakeL.cons; · repeat (first | exact Take1.head | apply Take1.tail))))
  exact hA.toIter (nw1_iter b1 bl bb 4096 _ xs hG hl w' hA.freeze.here) (fun k hk => rd_freeze (A := [blkR b1 41 [.pointer (some ⟨bl, 0, none⟩)], roR (blkR bl 87 [.pointer (some ⟨bb, 0, none⟩)]), roR (blkR bb 90 [.slice ao xs.length cap, .int .i64 4096]), rdR (.slice ao xs.length cap) 22 xs.length (vcs rcV xs)]) hk)

/-- The newest one of an id. -/
def findF (xs : List Rc) (id : List Int) : Option Rc := xs.reverse.find? fun x => decide (x.id = id)
theorem find_at {α : Type} {p : α → Bool} : ∀ {zs : List α} {i : Nat} {x : α}, zs[i]? = some x → (∀ y ∈ zs.take i, p y = false) → p x = true → zs.find? p = some x
  | [], _, _, h, _, _ => by simp at h
  | y :: zs, 0, x, h, _, hp => by simp at h; subst h; simp [hp]
  | y :: zs, i + 1, x, h, hn, hp => by
    have hy := hn y (by simp)
    rw [List.find?_cons_of_neg (by simp [hy])]
    exact find_at (i := i) (by simpa using h) (fun z hz => hn z (by simp [hz])) hp
theorem find_no {α : Type} {p : α → Bool} {zs : List α} (h : ∀ y ∈ zs, p y = false) : zs.find? p = none := by
  rw [List.find?_eq_none]
  intro x hx
  simp [h x hx]

theorem findL_any (bl bb : Nat) (ao : Option Addr) (cap : Nat) (xs : List Rc) (hG : ROk xs) (hl : xs.length ≤ 1000000) (id : List Int) (hid : id.length = 16) (hib : Bytes id) (w : World) (hw : OK w (fpL (logRo bl bb ao cap xs)) (logRo bl bb ao cap xs) w) :
    Fn Try.prog 22 [.pointer (some ⟨bl, 0, none⟩), .agg (ints .u8 id).toArray] (logRo bl bb ao cap xs) w (fun _ : Unit => True) (fun _ => .tuple #[.agg ((findF xs id).getD Rc.zero).cells.toArray, .bool (findF xs id).isSome]) (fun _ => []) := by
  unfold logRo at hw ⊢
  have hil : (ints .u8 id).length = 16 := by rw [ints_length, hid]
  refine enterM Try.func22 rfl Try.ntmps22 rfl hw ?_
  refine WC.seq ?_
  refine WC.region ?_
  refine WL.to (To.box (cs := ints .u8 id) rfl rfl) rfl ?_ -- t3
  intro b3
  refine WL.to (To.alloc (cs := Rc.zero.cells) zr46 rfl) rfl ?_ -- t4
  intro b4
  refine WL.to (To.alloc zr4 rfl) rfl ?_ -- t5
  intro b5
  refine WL.nil ?_
  refine WC.seq ?_
  refine WC.seq ?_
  refine WC.region ?_
  refine WL.y (Yl.move rfl) rfl ?_ -- t7
  refine WL.view (fun w h => h.roRead (v := .slice ao xs.length cap) (e := 46) (by repeat (first | exact Take1.head | apply Take1.tail))) ?_
  refine WL.callC (xs := [.tmp 7]) (cap := []) rfl rfl en28 (by repeat (first | exact TakeL.nil | (apply TakeL.cons; · repeat (first | exact Take1.head | apply Take1.tail)))) (fun w hw => nwRd_any bl bb ao cap xs hG hl w hw.left.here) rfl ?_ -- t8 (*hailer/log.Log).Newest
  rintro ⟨bn, own⟩ -
  refine WL.nil ?_
  refine WC.block ?_
  refine WC.range (α := Unit) (xs := ysR xs.reverse) (fun i _ => [blkR b3 44 (ints .u8 id), blkR b4 46 Rc.zero.cells, blkR b5 4 [.bool false]]) (fun i _ => ∀ y ∈ xs.reverse.take i, decide (y.id = id) = false) () rfl en51 ysR_size rfl (by repeat (first | exact Take1.head | apply Take1.tail)) (by simp) (by repeat (first | exact TakeL.nil | (apply TakeL.cons; · repeat (first | exact Take1.head | apply Take1.tail)))) ?_ ?_
  · intro l i x _ hx hs W
    obtain ⟨x, hx0, rfl⟩ := ysR_at hx
    have hxo : x.ok := hG x (List.mem_reverse.1 (List.mem_of_getElem? hx0))
    have h22 := Rc.cells_len hxo.len
    show WC _ _ _ ((9, .agg x.cells.toArray) :: _) _ _
    refine WC.region ?_
    refine WL.to (To.alloc (cs := Rc.zero.cells) zr46 rfl) rfl ?_ -- t6
    intro b6
    refine WL.sto (Sto.agg sz46 rfl rfl (by repeat (first | exact Take1.head | apply Take1.tail)) (Rc.ones _) h22 (by rfl) (Rc.all (r := Rc.zero) rfl x.cells h22)) (fun _ h => nomatch h) ?_ -- st 1
    refine WL.nil ?_
    repeat (first | (with_reducible refine peelT ?_) | (with_reducible refine peelB ?_) | (with_reducible refine peelTX ?_) | (with_reducible refine peelBX ?_) | (with_reducible refine peelBN ?_) | (with_reducible refine peelBO rfl ?_))
    refine fun W2 => ?_
    refine WC.block ?_
    refine WC.seq ?_
    refine WC.region ?_
    refine WL.y (Yl.field fo46_0 rfl) rfl ?_ -- t10
    refine WL.y (Yl.loadN ag44 rfl (by repeat (first | exact Take1.head | apply Take1.tail)) (leB (by rw [h22]; omega)) (Rc.cid hxo.len)) rfl ?_ -- t11
    refine WL.y (Yl.loadN ag44 rfl (by repeat (first | exact Take1.head | apply Take1.tail)) (leB (by rw [hil]; omega)) (show _ = ints .u8 id by rw [List.drop_zero, List.take_of_length_le (by rw [hil]; omega)])) rfl ?_ -- t12
    refine WL.y (Yl.eqA flId rfl rfl (fitsId hxo.len hxo.id) (fitsId hid hib)) rfl ?_
    rw [eqV_ints]
    refine WL.nil ?_
    refine WC.cond rfl (fun g13 => ?_) (fun g13 => ?_)
    · refine WC.seq ?_
      refine WC.region ?_
      refine WL.y (Yl.loadN ag46 rfl (by repeat (first | exact Take1.head | apply Take1.tail)) (leB (by rw [h22]; omega)) (Rc.call hxo.len)) rfl ?_ -- t14
      refine WL.sto (Sto.agg sz46 rfl rfl (by repeat (first | exact Take1.head | apply Take1.tail)) (Rc.ones _) h22 (by rfl) (Rc.all (r := Rc.zero) rfl x.cells h22)) (fun _ h => nomatch h) ?_ -- st 2
      refine WL.sto (Sto.one sz4 rfl rfl (by repeat (first | exact Take1.head | apply Take1.tail)) rfl (by rfl) (by rfl)) (fun _ h => nomatch h) ?_ -- st 3
      refine WL.nil ?_
      refine WC.ret ?_
      repeat (first | (with_reducible refine peelT ?_) | (with_reducible refine peelB ?_) | (with_reducible refine peelTX ?_) | (with_reducible refine peelBX ?_) | (with_reducible refine peelBN ?_) | (with_reducible refine peelBO rfl ?_))
      have hf : findF xs id = some x := find_at hx0 hs (by simpa using g13)
      rw [hf]
      refine ⟨[blkR b4 46 x.cells, blkR b5 4 [.bool true]], _, (by repeat (first | exact TakeL.nil | (apply TakeL.cons; · repeat (first | exact Take1.head | apply Take1.tail)))), fun D => ?_⟩
      dsimp only [List.cons_append, List.nil_append]
      repeat (first | (with_reducible refine peelT ?_) | (with_reducible refine peelB ?_) | (with_reducible refine peelTX ?_) | (with_reducible refine peelBX ?_) | (with_reducible refine peelBN ?_) | (with_reducible refine peelBO rfl ?_))
      refine retM.of (.cons (by repeat (first | exact Take1.head | apply Take1.tail)) .nil) ?_
      first | exact retCV (.inr rfl) Try.results22 ag46 on4 rfl rfl (by repeat (first | exact Take1.head | apply Take1.tail)) (by repeat (first | exact Take1.head | apply Take1.tail)) h22 fun w' h => ⟨(), trivial, rfl, h.sub (by repeat (first | exact TakeL.nil | (apply TakeL.cons; · repeat (first | exact Take1.head | apply Take1.tail))))⟩ | exact retCV (.inr rfl) Try.results22 ag46 on4 rfl rfl (by repeat (first | exact Take1.head | apply Take1.tail)) (by repeat (first | exact Take1.head | apply Take1.tail)) rfl fun w' h => ⟨(), trivial, rfl, h.sub (by repeat (first | exact TakeL.nil | (apply TakeL.cons; · repeat (first | exact Take1.head | apply Take1.tail))))⟩
    · refine WC.skip ?_
      repeat (first | (with_reducible refine peelT ?_) | (with_reducible refine peelB ?_) | (with_reducible refine peelTX ?_) | (with_reducible refine peelBX ?_) | (with_reducible refine peelBN ?_) | (with_reducible refine peelBO rfl ?_))
      exact ⟨[blkR b3 44 (ints .u8 id), blkR b4 46 Rc.zero.cells, blkR b5 4 [.bool false]], _, (by repeat (first | exact TakeL.nil | (apply TakeL.cons; · repeat (first | exact Take1.head | apply Take1.tail)))), (), hno_next (p := fun y : Rc => decide (y.id = id)) hx0 hs (by simpa using g13), rfl⟩
  · rintro _ D hs
    have hf : findF xs id = none := find_no (by rw [ysR_len, List.take_length] at hs; exact hs)
    rw [hf]
    dsimp only [List.cons_append, List.nil_append]
    refine WC.seq ?_
    refine WC.region ?_
    refine WL.y (Yl.build rfl (cs := Rc.zero.cells) (fun _ => by kernel_rfl)) rfl ?_ -- t15
    refine WL.sto (Sto.agg sz46 rfl rfl (by repeat (first | exact Take1.head | apply Take1.tail)) (Rc.ones _) rfl (by rfl) (Rc.all (r := Rc.zero) rfl Rc.zero.cells rfl)) (fun _ h => nomatch h) ?_ -- st 4
    refine WL.sto (Sto.one sz4 rfl rfl (by repeat (first | exact Take1.head | apply Take1.tail)) rfl (by rfl) (by rfl)) (fun _ h => nomatch h) ?_ -- st 5
    refine WL.nil ?_
    refine WC.ret ?_
    repeat (first | (with_reducible refine peelT ?_) | (with_reducible refine peelB ?_) | (with_reducible refine peelTX ?_) | (with_reducible refine peelBX ?_) | (with_reducible refine peelBN ?_) | (with_reducible refine peelBO rfl ?_))
    refine retM.of (.cons (by repeat (first | exact Take1.head | apply Take1.tail)) .nil) ?_
    first | exact retCV (.inr rfl) Try.results22 ag46 on4 rfl rfl (by repeat (first | exact Take1.head | apply Take1.tail)) (by repeat (first | exact Take1.head | apply Take1.tail)) h22 fun w' h => ⟨(), trivial, rfl, h.sub (by repeat (first | exact TakeL.nil | (apply TakeL.cons; · repeat (first | exact Take1.head | apply Take1.tail))))⟩ | exact retCV (.inr rfl) Try.results22 ag46 on4 rfl rfl (by repeat (first | exact Take1.head | apply Take1.tail)) (by repeat (first | exact Take1.head | apply Take1.tail)) rfl fun w' h => ⟨(), trivial, rfl, h.sub (by repeat (first | exact TakeL.nil | (apply TakeL.cons; · repeat (first | exact Take1.head | apply Take1.tail))))⟩
end Go.Proofs.Ytpjgmiemamcdhaa
