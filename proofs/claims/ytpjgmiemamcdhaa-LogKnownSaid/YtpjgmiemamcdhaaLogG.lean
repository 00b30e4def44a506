/- The log gone over; whether what is gone over is this: the walks. -/
import Derived.Test.YtpjgmiemamcdhaaLogF
namespace Go.Proofs.Ytpjgmiemamcdhaa
open Go Go.RowKit

/-- What is handed over, of records. -/
def ysR (xs : List Rc) : List (Array Value) := xs.map fun x => #[rcV x]
theorem ysR_len (xs : List Rc) : (ysR xs).length = xs.length := List.length_map _
theorem ysR_get {xs : List Rc} {i : Nat} {x : Rc} (h : xs[i]? = some x) : (ysR xs)[i]? = some #[rcV x] := by simp [ysR, h]
theorem ysR_at {xs : List Rc} {i : Nat} {y : Array Value} (h : (ysR xs)[i]? = some y) : ∃ x, xs[i]? = some x ∧ y = #[rcV x] := by
  simp [ysR] at h
  obtain ⟨x, h1, h2⟩ := h
  exact ⟨x, h1, h2.symm⟩
theorem ysR_size {xs : List Rc} : ∀ y ∈ ysR xs, y.size = 1 := by
  intro y hy
  obtain ⟨x, _, rfl⟩ := List.mem_map.1 hy
  rfl
/-- .. from the last one on, with their places. -/
def bwR (xs : List Rc) : List (Array Value) := (List.range xs.length).map fun k => #[Value.int .i64 ((xs.length - 1 - k : Nat) : Int), rcV (xs.getD (xs.length - 1 - k) Rc.zero)]
theorem bwR_len (xs : List Rc) : (bwR xs).length = xs.length := by simp [bwR]
theorem bwR_get {xs : List Rc} {k : Nat} {x : Rc} (hk : k < xs.length) (h : xs[xs.length - 1 - k]? = some x) : (bwR xs)[k]? = some #[Value.int .i64 ((xs.length - 1 - k : Nat) : Int), rcV x] := by
  simp [bwR, hk, h]
theorem bwR_at {xs : List Rc} {k : Nat} {y : Array Value} (h : (bwR xs)[k]? = some y) : ∃ x, k < xs.length ∧ xs[xs.length - 1 - k]? = some x ∧ xs.reverse[k]? = some x ∧ y = #[Value.int .i64 ((xs.length - 1 - k : Nat) : Int), rcV x] := by
  have hk : k < xs.length := by have := (List.getElem?_eq_some_iff.1 h).1; rwa [bwR_len] at this
  obtain ⟨x, hx⟩ : ∃ x, xs[xs.length - 1 - k]? = some x := ⟨_, List.getElem?_eq_getElem (by omega)⟩
  refine ⟨x, hk, hx, by rw [List.getElem?_reverse hk]; exact hx, ?_⟩
  rw [bwR_get hk hx] at h
  exact (Option.some.inj h).symm
theorem bwR_size {xs : List Rc} : ∀ y ∈ bwR xs, y.size = 2 := by
  intro y hy
  obtain ⟨x, _, rfl⟩ := List.mem_map.1 hy
  rfl

theorem bw1_iter (b1 : Nat) (v : Value) (xs : List Rc) (hG : ROk xs) (hl : xs.length ≤ 1000000) (w : World) (hA : OK w (fpL [roR (blkR b1 39 [v]), rdR v 22 xs.length (vcs rcV xs)]) [roR (blkR b1 39 [v]), rdR v 22 xs.length (vcs rcV xs)] w) :
    Iter Try.prog 72 ([.pointer (some ⟨b1, 0, none⟩)] : List Value).toArray (fpL [roR (blkR b1 39 [v]), rdR v 22 xs.length (vcs rcV xs)]).rd (bwR xs) w := by
  obtain ⟨al, cl, rfl, hcl, hml⟩ := (hA.get (.tail .head) : Rd _ _ _ _ _).form
  have hwr : ∀ r ∈ [roR (blkR b1 39 [.slice al xs.length cl]), rdR (.slice al xs.length cl) 22 xs.length (vcs rcV xs)], ∀ k, ¬ r.wr k := by
    intro r hr k hk
    simp at hr
    rcases hr with rfl | rfl <;> exact hk
  have hln := bwR_len xs
  refine iter_of Try.func72 rfl Try.ntmps72 rfl hA hwr ?_
  intro l W g gx T0 hy
  refine WC.seq ?_
  refine WC.region ?_
  refine WL.y (Yl.loadRo on39 rfl (by repeat (first | exact Take1.head | apply Take1.tail)) (by rfl)) rfl ?_
  refine WL.y (Yl.len un39 rfl) rfl ?_ -- t5
  refine WL.y (Yl.sub rfl rfl (IntWalk.i64_in _ (by omega))) rfl ?_ -- t6
  refine WL.say (t := 6) (v' := .int .i64 ((xs.length : Int) - 1 - ((0 : Nat) : Int))) rfl (by (refine congrArg _ ?_; omega)) ?_
  refine WL.y (Yl.assign rfl) rfl ?_ -- t3
  refine WL.nil ?_
  refine WC.block ?_
  refine WC.loop (α := Nat × (Nat → Prop)) (fun x => [(0, .func (.yield l) #[] #[]), (1, .pointer (some ⟨b1, 0, none⟩)), (3, .int .i64 ((xs.length : Int) - 1 - (x.1 : Int)))]) (fun x => [gstR g x.1 x.2, roR (blkR b1 39 [.slice al xs.length cl]), rdR (.slice al xs.length cl) 22 xs.length (vcs rcV xs)]) (fun x => x.1 ≤ xs.length) (fun x => xs.length - x.1) (0, T0) (Nat.zero_le _) ⟨(by repeat (first | exact Sub.nil | refine Sub.cons rfl ?_)), _, (by repeat (first | exact TakeL.nil | (apply TakeL.cons; · repeat (first | exact Take1.head | apply Take1.tail))))⟩ ?_
  rintro ⟨i, T⟩ hi
  dsimp only at hi ⊢
  refine WC.seq ?_
  refine WC.seq ?_
  refine WC.region ?_
  refine WL.y (Yl.move rfl) rfl ?_ -- t7
  refine WL.y (Yl.geq rfl rfl) rfl ?_ -- t8
  refine WL.nil ?_
  refine WC.condD rfl (fun g8 => ?_) (fun g8 => ?_)
  · refine WC.skip ?_
    refine WC.seq ?_
    refine WC.block ?_
    refine WC.seq ?_
    refine WC.region ?_
    have hi2 : i < xs.length := by omega
    obtain ⟨x, hx0⟩ : ∃ x, xs[xs.length - 1 - i]? = some x := ⟨_, List.getElem?_eq_getElem (by omega)⟩
    refine WL.y (Yl.move rfl) rfl ?_ -- t11
    refine WL.y (Yl.move rfl) rfl ?_ -- t12
    refine WL.say (t := 12) (v' := .int .i64 ((xs.length - 1 - i : Nat) : Int)) rfl (by (refine congrArg _ ?_; omega)) ?_
    refine WL.y (Yl.loadRo on39 rfl (by repeat (first | exact Take1.head | apply Take1.tail)) (by rfl)) rfl ?_
    refine WL.y (Yl.move rfl) rfl ?_ -- t14
    refine WL.say (t := 14) (v' := .int .i64 ((xs.length - 1 - i : Nat) : Int)) rfl (by (refine congrArg _ ?_; omega)) ?_
    refine WL.y (Yl.index un39 sz46 rfl rfl (Reads.of RdOf.rd' (by repeat (first | exact Take1.head | apply Take1.tail))) rfl (by omega)) rfl ?_ -- t15
    refine WL.y (Yl.loadV (j := xs.length - 1 - i) (u := x) vtR hG rfl (Reads.of RdOf.rd' (by repeat (first | exact Take1.head | apply Take1.tail))) rfl hx0) rfl ?_
    refine WL.yield (xs := [.tmp 12, .tmp 16]) (i := i) hy rfl rfl (bwR_get hi2 hx0) (by repeat (first | exact Take1.head | apply Take1.tail)) rfl ?_
    intro b17 T'
    refine WL.y (Yl.not rfl) rfl ?_ -- t18
    refine WL.nil ?_
    refine WC.cond rfl (fun g18 => ?_) (fun g18 => ?_)
    · refine WC.ret ?_
      repeat (first | (with_reducible refine peelT ?_) | (with_reducible refine peelB ?_) | (with_reducible refine peelTX ?_) | (with_reducible refine peelBX ?_) | (with_reducible refine peelBN ?_) | (with_reducible refine peelBO rfl ?_))
      have hb : b17 = false := by simpa using g18
      subst hb
      simp only [Bool.false_eq_true, if_false]
      exact itStop (i := i) (.inr rfl) Try.results72 (by repeat (first | exact Take1.head | apply Take1.tail)) (by rw [hln]; omega)
    · refine WC.skip ?_
      refine WC.region ?_
      refine WL.y (Yl.move rfl) rfl ?_ -- t9
      refine WL.y (Yl.sub rfl rfl (IntWalk.i64_in _ (by omega))) rfl ?_ -- t10
      refine WL.say (t := 10) (v' := .int .i64 ((xs.length : Int) - 1 - ((i + 1 : Nat) : Int))) rfl (by (refine congrArg _ ?_; omega)) ?_
      refine WL.y (Yl.assign rfl) rfl ?_ -- t3
      refine WL.nil ?_
      have hb : b17 = true := by simpa using g18
      subst hb
      simp only [if_true]
      exact ⟨rfl, (i + 1, T'), by dsimp only; omega, by dsimp only; omega, (by repeat (first | exact Sub.nil | refine Sub.cons rfl ?_)), _, (by repeat (first | exact TakeL.nil | (apply TakeL.cons; · repeat (first | exact Take1.head | apply Take1.tail))))⟩
  · refine WC.exit ?_
    repeat (first | (with_reducible refine peelT ?_) | (with_reducible refine peelB ?_) | (with_reducible refine peelTX ?_) | (with_reducible refine peelBX ?_) | (with_reducible refine peelBN ?_) | (with_reducible refine peelBO rfl ?_))
    have hx : i = (bwR xs).length := by rw [hln]; omega
    rw [← hx]
    exact itEnd (.inl rfl) Try.results72 (by repeat (first | exact Take1.head | apply Take1.tail))

theorem bw_any (v : Value) (xs : List Rc) (hG : ROk xs) (hl : xs.length ≤ 1000000) (w : World) (hw : OK w (fpL [rdR v 22 xs.length (vcs rcV xs)]) [rdR v 22 xs.length (vcs rcV xs)] w) :
    Fn Try.prog 52 [v] [rdR v 22 xs.length (vcs rcV xs)] w (fun _ : Nat × (Nat → Prop) => True) (fun y => .func (.func 72) #[] #[.pointer (some ⟨y.1, 0, none⟩)]) (fun y => [itR Try.prog 72 [.pointer (some ⟨y.1, 0, none⟩)] y.2 (bwR xs)]) := by
  obtain ⟨al, cl, rfl, hcl, hml⟩ := (hw.get .head : Rd _ _ _ _ _).form
  refine enterF Try.func52 rfl Try.ntmps52 rfl hw ?_
  refine WC.seq ?_
  refine WC.region ?_
  refine WL.to (To.box (cs := [.slice al xs.length cl]) rfl rfl) rfl ?_ -- t1
  intro b1
  refine WL.y (Yl.assign rfl) rfl ?_ -- t2
  refine WL.nil ?_
  refine WC.seq ?_
  refine WC.region ?_
  refine WL.y (Yl.makeFunc (xs := []) (ys := [.tmp 1]) rfl rfl) rfl ?_ -- t3
  refine WL.y (Yl.assign rfl) rfl ?_ -- t2
  refine WL.nil ?_
  refine WC.ret ?_
  repeat (first | (with_reducible refine peelT ?_) | (with_reducible refine peelB ?_) | (with_reducible refine peelTX ?_) | (with_reducible refine peelBX ?_) | (with_reducible refine peelBN ?_) | (with_reducible refine peelBO rfl ?_))
  refine ret1 (.inr rfl) Try.results52 rfl fun w' hh => ⟨(b1, (fpL [roR (blkR b1 39 [.slice al xs.length cl]), rdR (.slice al xs.length cl) 22 xs.length (vcs rcV xs)]).rd), trivial, rfl, ?_⟩
  have hA : OK w _ ([blkR b1 39 [.slice al xs.length cl], rdR (.slice al xs.length cl) 22 xs.length (vcs rcV xs)] ++ []) w' := hh.sub (by repeat (first | exact TakeL.nil | (apply TakeL.cons; · repeat (first | exact Take1.head | apply Take1.tail))))
  exact hA.toIter (bw1_iter b1 _ xs hG hl w' hA.freeze.here) (fun k hk => rd_freeze (A := [blkR b1 39 [.slice al xs.length cl], rdR (.slice al xs.length cl) 22 xs.length (vcs rcV xs)]) hk)

/-- What the newest ones' iterator leans on. -/
def nwA (b1 bl bb : Nat) (most : Int) (v : Value) (xs : List Rc) : List Res := [roR (blkR b1 41 [.pointer (some ⟨bl, 0, none⟩)]), roR (blkR bl 87 [.pointer (some ⟨bb, 0, none⟩)]), roR (blkR bb 90 [v, .int .i64 most]), rdR v 22 xs.length (vcs rcV xs)]

theorem nw1_iter (b1 bl bb : Nat) (most : Int) (v : Value) (xs : List Rc) (hG : ROk xs) (hl : xs.length ≤ 1000000) (w : World) (hA : OK w (fpL (nwA b1 bl bb most v xs)) (nwA b1 bl bb most v xs) w) :
    Iter Try.prog 51 ([.pointer (some ⟨b1, 0, none⟩)] : List Value).toArray (fpL (nwA b1 bl bb most v xs)).rd (ysR xs.reverse) w := by
  unfold nwA at hA ⊢
  obtain ⟨al, cl, rfl, hcl, hml⟩ := (hA.get (.tail (.tail (.tail .head))) : Rd _ _ _ _ _).form
  have hwr : ∀ r ∈ [roR (blkR b1 41 [.pointer (some ⟨bl, 0, none⟩)]), roR (blkR bl 87 [.pointer (some ⟨bb, 0, none⟩)]), roR (blkR bb 90 [.slice al xs.length cl, .int .i64 most]), rdR (.slice al xs.length cl) 22 xs.length (vcs rcV xs)], ∀ k, ¬ r.wr k := by
    intro r hr k hk
    simp at hr
    rcases hr with rfl | rfl | rfl | rfl <;> exact hk
  have hln : (ysR xs.reverse).length = xs.length := by rw [ysR_len, List.length_reverse]
  refine iter_ofM Try.func51 rfl Try.ntmps51 rfl hA hwr ?_
  intro l W g gx T0 hy
  refine WC.seq ?_
  refine WC.region ?_
  refine WL.to (To.box (cs := [.func (.yield l) #[] #[]]) rfl rfl) rfl ?_ -- t2
  intro b2
  refine WL.nil ?_
  refine WC.seq ?_
  refine WC.seq ?_
  refine WC.region ?_
  refine WL.y (Yl.loadRo on41 rfl (by repeat (first | exact Take1.head | apply Take1.tail)) (by rfl)) rfl ?_
  refine WL.y (Yl.nilEq un41 rfl rfl) rfl ?_ -- t6
  refine WL.know (t := 6) (b' := false) rfl (by first | rfl | (simp; done) | (simp; omega)) ?_
  refine WL.nil ?_
  refine WC.condF rfl (by first | rfl | (simp; done) | (simp; omega)) ?_
  refine WC.skip ?_
  refine WC.seq ?_
  refine WC.region ?_
  refine WL.y (Yl.loadRo on41 rfl (by repeat (first | exact Take1.head | apply Take1.tail)) (by rfl)) rfl ?_
  refine WL.y (Yl.nilCheck rfl) rfl ?_ -- t8
  refine WL.y (Yl.field fo87_0 rfl) rfl ?_ -- t9
  refine WL.y (Yl.loadRo on84 rfl (by repeat (first | exact Take1.head | apply Take1.tail)) (by rfl)) rfl ?_
  refine WL.y (Yl.nilCheck rfl) rfl ?_ -- t11
  refine WL.y (Yl.field fo90_0 rfl) rfl ?_ -- t12
  refine WL.y (Yl.loadRo on39 rfl (by repeat (first | exact Take1.head | apply Take1.tail)) (by rfl)) rfl ?_
  refine WL.callC (xs := [.tmp 13]) (cap := []) rfl rfl en52 (by repeat (first | exact TakeL.nil | (apply TakeL.cons; · repeat (first | exact Take1.head | apply Take1.tail)))) (fun w hw => bw_any _ xs hG hl w hw.left.here) rfl ?_ -- t14 slices.Backward[[]hailer/api.Record,hailer/api.Record]
  rintro ⟨bb1, own⟩ -
  refine WL.nil ?_
  refine WC.block ?_
  refine WC.range (α := Nat → Prop) (xs := bwR xs) (fun i T => [gstR g i T, blkR b2 91 [.func (.yield l) #[] #[]]]) (fun _ _ => True) T0 rfl en72 bwR_size rfl (by repeat (first | exact Take1.head | apply Take1.tail)) trivial (by repeat (first | exact TakeL.nil | (apply TakeL.cons; · repeat (first | exact Take1.head | apply Take1.tail)))) ?_ ?_
  · intro l2 i x T hx _ W2
    obtain ⟨x, hi, hx0, hxr, rfl⟩ := bwR_at hx
    have hxo := hG.get hx0
    have h22 := Rc.cells_len hxo.len
    show WC _ _ _ ((16, .agg x.cells.toArray) :: (15, .int .i64 ((xs.length - 1 - i : Nat) : Int)) :: _) _ _
    refine WC.region ?_
    refine WL.to (To.alloc (cs := Rc.zero.cells) zr46 rfl) rfl ?_ -- t4
    intro b4
    refine WL.sto (Sto.agg sz46 rfl rfl (by repeat (first | exact Take1.head | apply Take1.tail)) (Rc.ones _) h22 (by rfl) (Rc.all (r := Rc.zero) rfl x.cells h22)) (fun _ h => nomatch h) ?_ -- st 1
    refine WL.nil ?_
    repeat (first | (with_reducible refine peelT ?_) | (with_reducible refine peelB ?_) | (with_reducible refine peelTX ?_) | (with_reducible refine peelBX ?_) | (with_reducible refine peelBN ?_) | (with_reducible refine peelBO rfl ?_))
    refine fun W2 => ?_
    refine WC.block ?_
    refine WC.seq ?_
    refine WC.region ?_
    refine WL.y (Yl.load on91 rfl (by repeat (first | exact Take1.head | apply Take1.tail)) (by rfl)) rfl ?_ -- t17
    refine WL.y (Yl.loadN ag46 rfl (by repeat (first | exact Take1.head | apply Take1.tail)) (leB (by rw [h22]; omega)) (Rc.call hxo.len)) rfl ?_ -- t18
    refine WL.yield (xs := [.tmp 18]) (i := i) hy rfl rfl (ysR_get hxr) (by repeat (first | exact Take1.head | apply Take1.tail)) rfl ?_
    intro b19 T'
    refine WL.y (Yl.not rfl) rfl ?_ -- t20
    refine WL.nil ?_
    refine WC.cond rfl (fun g20 => ?_) (fun g20 => ?_)
    · refine WC.ret ?_
      repeat (first | (with_reducible refine peelT ?_) | (with_reducible refine peelB ?_) | (with_reducible refine peelTX ?_) | (with_reducible refine peelBX ?_) | (with_reducible refine peelBN ?_) | (with_reducible refine peelBO rfl ?_))
      have hb : b19 = false := by simpa using g20
      subst hb
      simp only [Bool.false_eq_true, if_false]
      refine ⟨[gstR gx i T'], _, (by repeat (first | exact TakeL.nil | (apply TakeL.cons; · repeat (first | exact Take1.head | apply Take1.tail)))), fun D => ?_⟩
      dsimp only [List.cons_append, List.nil_append]
      repeat (first | (with_reducible refine peelT ?_) | (with_reducible refine peelB ?_) | (with_reducible refine peelTX ?_) | (with_reducible refine peelBX ?_) | (with_reducible refine peelBN ?_) | (with_reducible refine peelBO rfl ?_))
      first | (refine retM.of (.cons (by repeat (first | exact Take1.head | apply Take1.tail)) .nil) ?_; rw [← hln]; exact itEnd (.inl rfl) Try.results51 (by repeat (first | exact Take1.head | apply Take1.tail))) | (refine retM.of (.cons (by repeat (first | exact Take1.head | apply Take1.tail)) .nil) ?_; exact itStop (i := i) (.inr rfl) Try.results51 (by repeat (first | exact Take1.head | apply Take1.tail)) (by rw [hln]; omega))
    · refine WC.skip ?_
      repeat (first | (with_reducible refine peelT ?_) | (with_reducible refine peelB ?_) | (with_reducible refine peelTX ?_) | (with_reducible refine peelBX ?_) | (with_reducible refine peelBN ?_) | (with_reducible refine peelBO rfl ?_))
      have hb : b19 = true := by simpa using g20
      subst hb
      simp only [if_true]
      exact ⟨[gstR g (i + 1) T', blkR b2 91 [.func (.yield l) #[] #[]]], _, (by repeat (first | exact TakeL.nil | (apply TakeL.cons; · repeat (first | exact Take1.head | apply Take1.tail)))), T', trivial, rfl⟩
  · rintro T D -
    rw [bwR_len]
    dsimp only [List.cons_append, List.nil_append]
    repeat (first | (with_reducible refine peelT ?_) | (with_reducible refine peelB ?_) | (with_reducible refine peelTX ?_) | (with_reducible refine peelBX ?_) | (with_reducible refine peelBN ?_) | (with_reducible refine peelBO rfl ?_))
    first | (refine retM.of (.cons (by repeat (first | exact Take1.head | apply Take1.tail)) .nil) ?_; rw [← hln]; exact itEnd (.inl rfl) Try.results51 (by repeat (first | exact Take1.head | apply Take1.tail))) | (refine retM.of (.cons (by repeat (first | exact Take1.head | apply Take1.tail)) .nil) ?_; exact itStop (i := i) (.inr rfl) Try.results51 (by repeat (first | exact Take1.head | apply Take1.tail)) (by rw [hln]; omega))

theorem nw_any (bl bb : Nat) (ao : Option Addr) (cap : Nat) (xs : List Rc) (hG : ROk xs) (hl : xs.length ≤ 1000000) (w : World) (hw : OK w (fpL (logR bl bb ao cap xs)) (logR bl bb ao cap xs) w) :
    Fn Try.prog 28 [.pointer (some ⟨bl, 0, none⟩)] (logR bl bb ao cap xs) w (fun _ : Nat × (Nat → Prop) => True) (fun y => .func (.func 51) #[] #[.pointer (some ⟨y.1, 0, none⟩)]) (fun y => [itR Try.prog 51 [.pointer (some ⟨y.1, 0, none⟩)] y.2 (ysR xs.reverse)]) := by
  unfold logR at hw ⊢
  refine enterF Try.func28 rfl Try.ntmps28 rfl hw ?_
  refine WC.seq ?_
  refine WC.region ?_
  refine WL.to (To.box (cs := [.pointer (some ⟨bl, 0, none⟩)]) rfl rfl) rfl ?_ -- t1
  intro b1
  refine WL.y (Yl.assign rfl) rfl ?_ -- t2
  refine WL.nil ?_
  refine WC.seq ?_
  refine WC.region ?_
  refine WL.y (Yl.makeFunc (xs := []) (ys := [.tmp 1]) rfl rfl) rfl ?_ -- t3
  refine WL.y (Yl.assign rfl) rfl ?_ -- t2
  refine WL.nil ?_
  refine WC.ret ?_
  repeat (first | (with_reducible refine peelT ?_) | (with_reducible refine peelB ?_) | (with_reducible refine peelTX ?_) | (with_reducible refine peelBX ?_) | (with_reducible refine peelBN ?_) | (with_reducible refine peelBO rfl ?_))
  refine ret1 (.inr rfl) Try.results28 rfl fun w' hh => ⟨(b1, (fpL (nwA b1 bl bb 4096 (.slice ao xs.length cap) xs)).rd), trivial, rfl, ?_⟩
  have hr := hh.readOnly (v := .slice ao xs.length cap) (e := 46) (by repeat (first | exact Take1.head | apply Take1.tail))
  have hA : OK w _ ([blkR b1 41 [.pointer (some ⟨bl, 0, none⟩)], blkR bl 87 [.pointer (some ⟨bb, 0, none⟩)], blkR bb 90 [.slice ao xs.length cap, .int .i64 4096], rdR (.slice ao xs.length cap) 22 xs.length (vcs rcV xs)] ++ []) w' := hr.sub (by repeat (first | exact TakeL.nil | (apply TakeL.cons; · repeat (first | exact Take1.head | apply Take1.tail))))
  exact hA.toIter (nw1_iter b1 bl bb 4096 _ xs hG hl w' hA.freeze.here) (fun k hk => rd_freeze (A := [blkR b1 41 [.pointer (some ⟨bl, 0, none⟩)], blkR bl 87 [.pointer (some ⟨bb, 0, none⟩)], blkR bb 90 [.slice ao xs.length cap, .int .i64 4096], rdR (.slice ao xs.length cap) 22 xs.length (vcs rcV xs)]) hk)

theorem areR_any (gf : FuncId) (lb : List Value) (own : Nat → Prop) (eg : ∀ args w, (callFunc gf args).run Try.prog w = .ok (.enter gf args) w) (xs : List Rc) (hG : ROk xs) (v : Value) (left : Int) (hleft : -9223372036854775808 ≤ left ∧ left ≤ 9223372036854775807) (hl : xs.length ≤ 1000000) (w : World)
    (hw : OK w (fpL [itR Try.prog gf lb own (ysR xs), rdR v 22 xs.length (vcs rcV xs)]) [itR Try.prog gf lb own (ysR xs), rdR v 22 xs.length (vcs rcV xs)] w) :
    Fn Try.prog 27 [.func (.func gf) #[] lb.toArray, v, .int .i64 left] [itR Try.prog gf lb own (ysR xs), rdR v 22 xs.length (vcs rcV xs)] w (fun _ : Unit => True) (fun _ => .bool true) (fun _ => []) := by
  obtain ⟨al, cl, rfl, hcl, hml⟩ := (hw.get (.tail .head) : Rd _ _ _ _ _).form
  have hl1 := hleft.1
  have hl2 := hleft.2
  refine enterM Try.func27 rfl Try.ntmps27 rfl hw ?_
  refine WC.seq ?_
  refine WC.region ?_
  refine WL.to (To.box (cs := [.slice al xs.length cl]) rfl rfl) rfl ?_ -- t4
  intro b4
  refine WL.to (To.box (cs := [.int .i64 left]) rfl rfl) rfl ?_ -- t5
  intro b5
  refine WL.to (To.alloc zr4 rfl) rfl ?_ -- t6
  intro b6
  refine WL.nil ?_
  refine WC.seq ?_
  refine WC.region ?_
  refine WL.to (To.alloc zr3 rfl) rfl ?_ -- t7
  intro b7
  refine WL.sto (Sto.one sz3 rfl rfl (by repeat (first | exact Take1.head | apply Take1.tail)) rfl (by rfl) (by rfl)) (fun _ h => nomatch h) ?_ -- st 1
  refine WL.nil ?_
  refine WC.seq ?_
  refine WC.seq ?_
  refine WC.region ?_
  refine WL.y (Yl.move rfl) rfl ?_ -- t9
  refine WL.nil ?_
  refine WC.block ?_
  refine WC.range (α := Unit) (xs := ysR xs) (fun i _ => [blkR b7 3 [.int .i64 ((i : Nat) : Int)], blkR b4 39 [.slice al xs.length cl], rdR (.slice al xs.length cl) 22 xs.length (vcs rcV xs), blkR b5 3 [.int .i64 left], blkR b6 4 [.bool false]]) (fun i _ => i = 0 ∨ (i : Int) < left) () rfl eg ysR_size rfl (by repeat (first | exact Take1.head | apply Take1.tail)) (.inl rfl) (by repeat (first | exact TakeL.nil | (apply TakeL.cons; · repeat (first | exact Take1.head | apply Take1.tail)))) ?_ ?_
  · intro l i x _ hx hs W
    obtain ⟨x, hx0, rfl⟩ := ysR_at hx
    have hi := (List.getElem?_eq_some_iff.1 hx0).1
    have hxo := hG.get hx0
    have h22 := Rc.cells_len hxo.len
    show WC _ _ _ ((10, .agg x.cells.toArray) :: _) _ _
    refine WC.region ?_
    refine WL.to (To.alloc (cs := Rc.zero.cells) zr46 rfl) rfl ?_ -- t8
    intro b8
    refine WL.sto (Sto.agg sz46 rfl rfl (by repeat (first | exact Take1.head | apply Take1.tail)) (Rc.ones _) h22 (by rfl) (Rc.all (r := Rc.zero) rfl x.cells h22)) (fun _ h => nomatch h) ?_ -- st 2
    refine WL.nil ?_
    repeat (first | (with_reducible refine peelT ?_) | (with_reducible refine peelB ?_) | (with_reducible refine peelTX ?_) | (with_reducible refine peelBX ?_) | (with_reducible refine peelBN ?_) | (with_reducible refine peelBO rfl ?_))
    refine fun W2 => ?_
    refine WC.block ?_
    refine WC.seq ?_
    refine WC.seq ?_
    refine WC.drawRead mixed (by kernel_rfl) ?_
    refine WH.y (Yl.load on3 rfl (by repeat (first | exact Take1.head | apply Take1.tail)) (by rfl)) rfl ?_ -- t11
    refine WH.y (Yl.load on39 rfl (by repeat (first | exact Take1.head | apply Take1.tail)) (by rfl)) rfl ?_ -- t12
    refine WH.y (Yl.len un39 rfl) rfl ?_ -- t13
    refine WH.y (Yl.geq rfl rfl) rfl ?_ -- t14
    refine WH.know (t := 14) (b' := false) rfl (decide_eq_false (by omega)) ?_
    refine WH.y (Yl.move rfl) rfl ?_ -- t15
    refine WH.on rfl rfl ?_
    refine WH.y (Yl.loadN ag46 rfl (by repeat (first | exact Take1.head | apply Take1.tail)) (leB (by rw [h22]; omega)) (Rc.call hxo.len)) rfl ?_ -- t16
    refine WH.on rfl rfl ?_
    refine WH.y (Yl.load on39 rfl (by repeat (first | exact Take1.head | apply Take1.tail)) (by rfl)) rfl ?_ -- t17
    refine WH.on rfl rfl ?_
    refine WH.y (Yl.load on3 rfl (by repeat (first | exact Take1.head | apply Take1.tail)) (by rfl)) rfl ?_ -- t18
    refine WH.on rfl rfl ?_
    refine WH.y (Yl.index un39 sz46 rfl rfl (Reads.of RdOf.rd' (by repeat (first | exact Take1.head | apply Take1.tail))) rfl (by omega)) rfl ?_ -- t19
    refine WH.on rfl rfl ?_
    refine WH.y (Yl.loadV (j := i) (u := x) vtR hG rfl (Reads.of RdOf.rd' (by repeat (first | exact Take1.head | apply Take1.tail))) rfl hx0) rfl ?_
    refine WH.on rfl rfl ?_
    refine WH.y (Yl.neA flRec rfl rfl hxo.fits hxo.fits) rfl ?_
    refine WH.know (t := 21) (b' := false) rfl (by simp [eqV_self]) ?_
    refine WH.y (Yl.pickF rfl rfl) rfl ?_ -- t22
    refine WH.nil ?_
    refine WC.condF rfl (by first | rfl | (simp; done) | (simp; omega)) ?_
    refine WC.skip ?_
    refine WC.seq ?_
    refine WC.region ?_
    refine WL.y (Yl.load on3 rfl (by repeat (first | exact Take1.head | apply Take1.tail)) (by rfl)) rfl ?_ -- t23
    refine WL.y (Yl.add rfl rfl (IntWalk.i64_in _ (by omega))) rfl ?_ -- t24
    refine WL.sto (Sto.one sz3 rfl rfl (by repeat (first | exact Take1.head | apply Take1.tail)) rfl (by rfl) (by rfl)) (fun _ h => nomatch h) ?_ -- st 4
    refine WL.nil ?_
    refine WC.seq ?_
    refine WC.region ?_
    refine WL.y (Yl.load on3 rfl (by repeat (first | exact Take1.head | apply Take1.tail)) (by rfl)) rfl ?_ -- t25
    refine WL.y (Yl.load on3 rfl (by repeat (first | exact Take1.head | apply Take1.tail)) (by rfl)) rfl ?_ -- t26
    refine WL.y (Yl.geq rfl rfl) rfl ?_ -- t27
    refine WL.nil ?_
    refine WC.condD rfl (fun g27 => ?_) (fun g27 => ?_)
    · refine WC.exit ?_
      repeat (first | (with_reducible refine peelT ?_) | (with_reducible refine peelB ?_) | (with_reducible refine peelTX ?_) | (with_reducible refine peelBX ?_) | (with_reducible refine peelBN ?_) | (with_reducible refine peelBO rfl ?_))
      refine ⟨[blkR b7 3 [.int .i64 ((i : Int) + 1)], blkR b4 39 [.slice al xs.length cl], blkR b5 3 [.int .i64 left], blkR b6 4 [.bool false]], _, (by repeat (first | exact TakeL.nil | (apply TakeL.cons; · repeat (first | exact Take1.head | apply Take1.tail)))), fun D => ?_⟩
      dsimp only [List.cons_append, List.nil_append]
      refine WC.seq ?_
      refine WC.region ?_
      refine WL.y (Yl.load on3 rfl (by repeat (first | exact Take1.head | apply Take1.tail)) (by rfl)) rfl ?_ -- t28
      refine WL.y (Yl.load on39 rfl (by repeat (first | exact Take1.head | apply Take1.tail)) (by rfl)) rfl ?_ -- t29
      refine WL.y (Yl.len un39 rfl) rfl ?_ -- t30
      refine WL.y (Yl.load on3 rfl (by repeat (first | exact Take1.head | apply Take1.tail)) (by rfl)) rfl ?_ -- t31
      refine WL.y (Yl.max2 rfl rfl) rfl ?_ -- t32
      refine WL.y (Yl.min2 rfl rfl) rfl ?_ -- t33
      refine WL.y (Yl.eql rfl rfl) rfl ?_ -- t34
      refine WL.know (t := 34) (b' := true) rfl (by apply decide_eq_true; (repeat' split) <;> omega) ?_
      refine WL.sto (Sto.one sz4 rfl rfl (by repeat (first | exact Take1.head | apply Take1.tail)) rfl (by rfl) (by rfl)) (fun _ h => nomatch h) ?_ -- st 5
      refine WL.nil ?_
      refine WC.ret ?_
      repeat (first | (with_reducible refine peelT ?_) | (with_reducible refine peelB ?_) | (with_reducible refine peelTX ?_) | (with_reducible refine peelBX ?_) | (with_reducible refine peelBN ?_) | (with_reducible refine peelBO rfl ?_))
      refine retM.of (.cons (by repeat (first | exact Take1.head | apply Take1.tail)) .nil) ?_
      exact retV1 (.inr rfl) Try.results27 on4 rfl (by repeat (first | exact Take1.head | apply Take1.tail)) fun w' h => ⟨(), trivial, rfl, h.sub (by repeat (first | exact TakeL.nil | (apply TakeL.cons; · repeat (first | exact Take1.head | apply Take1.tail))))⟩
    · refine WC.skip ?_
      repeat (first | (with_reducible refine peelT ?_) | (with_reducible refine peelB ?_) | (with_reducible refine peelTX ?_) | (with_reducible refine peelBX ?_) | (with_reducible refine peelBN ?_) | (with_reducible refine peelBO rfl ?_))
      exact ⟨[blkR b7 3 [.int .i64 ((i : Int) + 1)], blkR b4 39 [.slice al xs.length cl], rdR (.slice al xs.length cl) 22 xs.length (vcs rcV xs), blkR b5 3 [.int .i64 left], blkR b6 4 [.bool false]], _, (by repeat (first | exact TakeL.nil | (apply TakeL.cons; · repeat (first | exact Take1.head | apply Take1.tail)))), (), .inr (by push_cast; omega), rfl⟩
  · rintro _ D hs
    rw [ysR_len] at hs ⊢
    dsimp only [List.cons_append, List.nil_append]
    refine WC.seq ?_
    refine WC.region ?_
    refine WL.y (Yl.load on3 rfl (by repeat (first | exact Take1.head | apply Take1.tail)) (by rfl)) rfl ?_ -- t28
    refine WL.y (Yl.load on39 rfl (by repeat (first | exact Take1.head | apply Take1.tail)) (by rfl)) rfl ?_ -- t29
    refine WL.y (Yl.len un39 rfl) rfl ?_ -- t30
    refine WL.y (Yl.load on3 rfl (by repeat (first | exact Take1.head | apply Take1.tail)) (by rfl)) rfl ?_ -- t31
    refine WL.y (Yl.max2 rfl rfl) rfl ?_ -- t32
    refine WL.y (Yl.min2 rfl rfl) rfl ?_ -- t33
    refine WL.y (Yl.eql rfl rfl) rfl ?_ -- t34
    refine WL.know (t := 34) (b' := true) rfl (by apply decide_eq_true; (repeat' split) <;> omega) ?_
    refine WL.sto (Sto.one sz4 rfl rfl (by repeat (first | exact Take1.head | apply Take1.tail)) rfl (by rfl) (by rfl)) (fun _ h => nomatch h) ?_ -- st 5
    refine WL.nil ?_
    refine WC.ret ?_
    repeat (first | (with_reducible refine peelT ?_) | (with_reducible refine peelB ?_) | (with_reducible refine peelTX ?_) | (with_reducible refine peelBX ?_) | (with_reducible refine peelBN ?_) | (with_reducible refine peelBO rfl ?_))
    refine retM.of (.cons (by repeat (first | exact Take1.head | apply Take1.tail)) .nil) ?_
    exact retV1 (.inr rfl) Try.results27 on4 rfl (by repeat (first | exact Take1.head | apply Take1.tail)) fun w' h => ⟨(), trivial, rfl, h.sub (by repeat (first | exact TakeL.nil | (apply TakeL.cons; · repeat (first | exact Take1.head | apply Take1.tail))))⟩
end Go.Proofs.Ytpjgmiemamcdhaa
