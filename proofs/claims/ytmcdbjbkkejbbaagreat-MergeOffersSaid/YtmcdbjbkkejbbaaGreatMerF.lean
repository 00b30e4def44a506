/- Books: what is accepted: the walk. -/
import Derived.Test.YtmcdbjbkkejbbaaGreatMerE
import Derived.Test.YtmcdbjbkkejbbaaGreatRecD
namespace Go.Proofs.YtmcdbjbkkejbbaaGreat
open Go Go.RowKit
def recsOf (bs : List Int) (n : Nat) : List Rc := (List.range n).map (recAt bs)
theorem recsOf_len (bs : List Int) (n : Nat) : (recsOf bs n).length = n := by simp [recsOf]
theorem recsOf_succ (bs : List Int) (n : Nat) : recsOf bs (n + 1) = recsOf bs n ++ [recAt bs n] := by simp [recsOf, List.range_succ]
theorem recsOf_cells (bs : List Int) (n : Nat) : vcs rcV (recsOf bs n) = recCells bs n := by
  induction n with
  | zero => rfl
  | succ n ih => rw [recsOf_succ, recCells_succ, vcs_app, ih, vcs_one]; rfl
theorem recsOf_ok {bs : List Int} (hB : Bytes bs) {n : Nat} (h : n ≤ recN bs) : ROk (recsOf bs n) := by
  intro r hr
  obtain ⟨i, hi, rfl⟩ := List.mem_map.1 hr
  exact recAt_ok hB (by have := List.mem_range.1 hi; omega)
/-- What a book is behind bytes that are accepted, how many changed it; are all of them records? -/
def allRec (bs : List Int) : Bool := decide (recN bs * 43 = bs.length)
def accF (l : List Rc) (bs : List Int) : List Rc × Nat := if allRec bs then joinF l (recsOf bs (recN bs)) else (l, 0)
set_option maxRecDepth 100000 in
theorem accept_any (b : Nat) (ao : Option Addr) (ca : Nat) (l : List Rc) (bs : List Int) (v : Value) (hB : Bytes bs) (hsz : bs.length ≤ 1000000) (hBk : Book l) (hl : l.length + recN bs ≤ 999999) (w : World) (hw : OK w (fpL (rdR v 1 bs.length (ints .u8 bs) :: bkR b ao ca l)) (rdR v 1 bs.length (ints .u8 bs) :: bkR b ao ca l) w) :
    Fn Tryz.prog 15 [.pointer (some ⟨b, 0, none⟩), v] (rdR v 1 bs.length (ints .u8 bs) :: bkR b ao ca l) w (fun _ : Option Addr × Nat => True) (fun _ => .tuple #[.int .i64 ((accF l bs).2 : Int), .int .i64 (if allRec bs then 0 else 9)]) (fun y => bkR b y.1 y.2 (accF l bs).1) := by
  obtain ⟨al, cl, rfl, hcl, hml⟩ := (hw.get .head : Rd _ _ _ _ _).form
  unfold bkR at hw ⊢
  refine enterM Tryz.func15 rfl Tryz.ntmps15 rfl hw ?_
  refine WC.seq ?_
  refine WC.region ?_
  refine WL.y (Yl.assign rfl) rfl ?_ -- t4
  refine WL.y (Yl.assign rfl) rfl ?_ -- t5
  refine WL.nil ?_
  refine WC.seq ?_
  refine WC.seq ?_
  refine WC.region ?_
  refine WL.y (Yl.move rfl) rfl ?_ -- t9
  refine WL.y (Yl.nilEq un26 rfl rfl) rfl ?_ -- t10
  refine WL.know (t := 10) (b' := false) rfl (by first | rfl | (simp; done) | (simp; omega)) ?_
  refine WL.nil ?_
  refine WC.condF rfl (by first | rfl | (simp; done) | (simp; omega)) ?_
  refine WC.skip ?_
  refine WC.seq ?_
  refine WC.region ?_
  refine WL.to (To.alloc (cs := [.slice none 0 0]) zr22 rfl) rfl ?_ -- t6
  intro b6
  refine WL.nil ?_
  refine WC.seq ?_
  refine WC.seq ?_
  refine WC.view (fun w h => h.dup (r := rdR (.slice al bs.length cl) 1 bs.length (ints .u8 bs)) (by repeat (first | exact Take1.head | apply Take1.tail)) (fun _ h => h)) ?_
  refine WC.region ?_
  refine WL.y (Yl.move rfl) rfl ?_ -- t11
  refine WL.callC (xs := [.tmp 11]) (cap := []) rfl rfl en34 (by repeat (first | exact TakeL.nil | (apply TakeL.cons; · repeat (first | exact Take1.head | apply Take1.tail)))) (fun w hw => recAll_any bs (.slice al bs.length cl) hB (by omega) w hw.left.here) rfl ?_ -- t12 hailer/rec.All
  rintro ⟨bn, own⟩ -
  dsimp only [List.cons_append, List.nil_append]
  refine WL.nil ?_
  refine WC.block ?_
  refine WC.view (fun w h => h.addNil 33 22) ?_
  refine WC.range (α := Option Addr × Nat) (xs := recYs bs) (fun i s => [blkR b6 22 [.slice s.1 (recsOf bs i).length s.2], ownR (.slice s.1 (recsOf bs i).length s.2) 33 22 (recsOf bs i).length (vcs rcV (recsOf bs i))]) (fun _ _ => True) (none, 0) rfl en65 recYs_size rfl (by repeat (first | exact Take1.head | apply Take1.tail)) trivial (by repeat (first | exact TakeL.nil | (apply TakeL.cons; · repeat (first | exact Take1.head | apply Take1.tail)))) ?_ ?_
  · rintro l2 i x ⟨ao1, ca1⟩ hx - W
    obtain ⟨hi, rfl⟩ := recYs_at hx
    have hxo := recAt_ok hB hi
    have h22 := Rc.cells_len hxo.len
    have hrl := recsOf_len bs i
    have hrl2 := recsOf_len bs (i + 1)
    dsimp only
    show WC _ _ _ ((14, .agg (recAt bs i).cells.toArray) :: (13, _) :: _) _ _
    refine WC.region ?_
    refine WL.to (To.alloc (cs := Rc.zero.cells) zr33 rfl) rfl ?_ -- t8
    intro b8
    refine WL.sto (Sto.agg sz33 rfl rfl (by repeat (first | exact Take1.head | apply Take1.tail)) (Rc.ones _) h22 (by rfl) (Rc.all (r := Rc.zero) rfl (recAt bs i).cells h22)) (fun _ h => nomatch h) ?_ -- st 1
    refine WL.nil ?_
    repeat (first | (with_reducible refine peelT ?_) | (with_reducible refine peelB ?_) | (with_reducible refine peelTX ?_) | (with_reducible refine peelBX ?_) | (with_reducible refine peelBN ?_) | (with_reducible refine peelBO rfl ?_))
    refine fun W2 => ?_
    refine WC.block ?_
    refine WC.region ?_
    refine WL.y (Yl.load on22 rfl (by repeat (first | exact Take1.head | apply Take1.tail)) (by rfl)) rfl ?_ -- t15
    refine WL.y (Yl.loadN ag33 rfl (by repeat (first | exact Take1.head | apply Take1.tail)) (leB (by rw [h22]; omega)) (Rc.call hxo.len)) rfl ?_ -- t16
    refine WL.to (To.buildSlice (vs := [.agg (recAt bs i).cells.toArray]) un22 zs33 rfl rfl (by simp [Value.cells, h22]) (by decide) (by decide)) rfl ?_ -- t17
    intro b17
    rw [flat1]
    refine WL.to (To.append sl22 rfl rfl (by repeat (first | exact Take1.head | apply Take1.tail)) (Reads.of (rdRc hxo) (by repeat (first | exact Take1.head | apply Take1.tail))) (Rc.ones _) (show _ = (recsOf bs (i + 1)).length by omega) (show _ = vcs rcV (recsOf bs (i + 1)) by rw [recsOf_succ, vcs_app, vcs_one]; rfl) (by unfold maxLen; omega) (by omega)) rfl ?_ -- t18
    rintro ⟨⟨ao18, c18⟩, hc18⟩
    dsimp only at hc18 ⊢
    refine WL.sto (Sto.one sz22 rfl rfl (by repeat (first | exact Take1.head | apply Take1.tail)) rfl (by rfl) (by rfl)) (fun _ h => nomatch h) ?_ -- st 2
    refine WL.nil ?_
    repeat (first | (with_reducible refine peelT ?_) | (with_reducible refine peelB ?_) | (with_reducible refine peelTX ?_) | (with_reducible refine peelBX ?_) | (with_reducible refine peelBN ?_) | (with_reducible refine peelBO rfl ?_))
    exact ⟨[blkR b6 22 [.slice ao18 (recsOf bs (i + 1)).length c18], ownR (.slice ao18 (recsOf bs (i + 1)).length c18) 33 22 (recsOf bs (i + 1)).length (vcs rcV (recsOf bs (i + 1)))], _, (by repeat (first | exact TakeL.nil | (apply TakeL.cons; · repeat (first | exact Take1.head | apply Take1.tail)))), (ao18, c18), trivial, rfl⟩
  · rintro ⟨ao1, ca1⟩ D -
    rw [recYs_len]
    have hrl := recsOf_len bs (recN bs)
    dsimp only [List.cons_append, List.nil_append]
    refine WC.seq ?_
    refine WC.seq ?_
    refine WC.region ?_
    refine WL.y (Yl.load on22 rfl (by repeat (first | exact Take1.head | apply Take1.tail)) (by rfl)) rfl ?_ -- t19
    refine WL.y (Yl.len un22 rfl) rfl ?_ -- t20
    refine WL.y (Yl.mul rfl rfl (IntWalk.i64_in _ (by omega))) rfl ?_ -- t21
    refine WL.y (Yl.move rfl) rfl ?_ -- t22
    refine WL.y (Yl.len un23 rfl) rfl ?_ -- t23
    refine WL.y (Yl.neq rfl rfl) rfl ?_ -- t24
    refine WL.nil ?_
    refine WC.condD rfl (fun g24 => ?_) (fun g24 => ?_)
    · refine WC.seq ?_
      refine WC.region ?_
      refine WL.y (Yl.assign rfl) rfl ?_ -- t4
      refine WL.y (Yl.assign rfl) rfl ?_ -- t5
      refine WL.nil ?_
      refine WC.ret ?_
      repeat (first | (with_reducible refine peelT ?_) | (with_reducible refine peelB ?_) | (with_reducible refine peelTX ?_) | (with_reducible refine peelBX ?_) | (with_reducible refine peelBN ?_) | (with_reducible refine peelBO rfl ?_))
      have hn : allRec bs = false := by unfold allRec; simp only [decide_eq_true_eq, ne_eq] at g24; exact decide_eq_false (by omega)
      unfold accF
      rw [hn]
      refine retM.of (.cons (by repeat (first | exact Take1.head | apply Take1.tail)) .nil) ?_
      exact ret2 (.inr rfl) Tryz.results15 rfl rfl fun w' h => ⟨(ao, ca), trivial, rfl, h.sub (by repeat (first | exact TakeL.nil | (apply TakeL.cons; · repeat (first | exact Take1.head | apply Take1.tail))))⟩
    · refine WC.skip ?_
      refine WC.seq ?_
      refine WC.region ?_
      refine WL.y (Yl.move rfl) rfl ?_ -- t25
      refine WL.y (Yl.load on22 rfl (by repeat (first | exact Take1.head | apply Take1.tail)) (by rfl)) rfl ?_ -- t26
      refine WL.view (fun w h => h.readOnly (v := .slice ao1 (recsOf bs (recN bs)).length ca1) (by repeat (first | exact Take1.head | apply Take1.tail))) ?_
      refine WL.callC (xs := [.tmp 26]) (cap := []) rfl rfl en24 (by repeat (first | exact TakeL.nil | (apply TakeL.cons; · repeat (first | exact Take1.head | apply Take1.tail)))) (fun w hw => val_any (.slice ao1 (recsOf bs (recN bs)).length ca1) (recsOf bs (recN bs)) (recsOf_ok hB (Nat.le_refl _)) (by omega) w hw.left.here) rfl ?_ -- t27 slices.Values[[]hailer/api.Record,hailer/api.Record]
      rintro ⟨y1, own2⟩ -
      dsimp only [List.cons_append, List.nil_append]
      refine WL.callC (xs := [.tmp 25, .tmp 27]) (cap := []) rfl rfl en23 (by repeat (first | exact TakeL.nil | (apply TakeL.cons; · repeat (first | exact Take1.head | apply Take1.tail)))) (fun w hw => join_any b ao ca l 52 [.pointer (some ⟨y1, 0, none⟩)] own2 (recsOf bs (recN bs)) en52 hBk (recsOf_ok hB (Nat.le_refl _)) (by omega) w hw.left.here) rfl ?_ -- t28 (*hailer/merge.Book).Join
      rintro ⟨ao2, ca2⟩ -
      dsimp only [bkR, List.cons_append, List.nil_append]
      refine WL.y (Yl.assign rfl) rfl ?_ -- t4
      refine WL.y (Yl.assign rfl) rfl ?_ -- t5
      refine WL.nil ?_
      refine WC.ret ?_
      repeat (first | (with_reducible refine peelT ?_) | (with_reducible refine peelB ?_) | (with_reducible refine peelTX ?_) | (with_reducible refine peelBX ?_) | (with_reducible refine peelBN ?_) | (with_reducible refine peelBO rfl ?_))
      have hn : allRec bs = true := by unfold allRec; simp only [decide_eq_false_iff_not, ne_eq, Decidable.not_not] at g24; exact decide_eq_true (by omega)
      unfold accF
      rw [hn]
      refine retM.of (.cons (by repeat (first | exact Take1.head | apply Take1.tail)) .nil) ?_
      exact ret2 (.inr rfl) Tryz.results15 rfl rfl fun w' h => ⟨(ao2, ca2), trivial, rfl, h.sub (by repeat (first | exact TakeL.nil | (apply TakeL.cons; · repeat (first | exact Take1.head | apply Take1.tail))))⟩
theorem acceptNil_any (w : World) (v : Value) (hw : OK w (fpL []) [] w) :
    Fn Tryz.prog 15 [.pointer none, v] [] w (fun _ : Unit => True) (fun _ => .tuple #[.int .i64 0, .int .i64 1]) (fun _ => []) := by
  refine enterF Tryz.func15 rfl Tryz.ntmps15 rfl hw ?_
  refine WC.seq ?_
  refine WC.region ?_
  refine WL.y (Yl.assign rfl) rfl ?_ -- t4
  refine WL.y (Yl.assign rfl) rfl ?_ -- t5
  refine WL.nil ?_
  refine WC.seq ?_
  refine WC.seq ?_
  refine WC.region ?_
  refine WL.y (Yl.move rfl) rfl ?_ -- t9
  refine WL.y (Yl.nilEq un26 rfl rfl) rfl ?_ -- t10
  refine WL.know (t := 10) (b' := true) rfl (by first | rfl | (simp; done) | (simp; omega)) ?_
  refine WL.nil ?_
  refine WC.condT rfl (by first | rfl | (simp; done) | (simp; omega)) ?_
  refine WC.seq ?_
  refine WC.region ?_
  refine WL.y (Yl.assign rfl) rfl ?_ -- t4
  refine WL.y (Yl.assign rfl) rfl ?_ -- t5
  refine WL.nil ?_
  refine WC.ret ?_
  repeat (first | (with_reducible refine peelT ?_) | (with_reducible refine peelB ?_) | (with_reducible refine peelTX ?_) | (with_reducible refine peelBX ?_) | (with_reducible refine peelBN ?_) | (with_reducible refine peelBO rfl ?_))
  exact ret2 (.inr rfl) Tryz.results15 rfl rfl fun w' h => ⟨(), trivial, rfl, h.sub (by repeat (first | exact TakeL.nil | (apply TakeL.cons; · repeat (first | exact Take1.head | apply Take1.tail))))⟩
end Go.Proofs.YtmcdbjbkkejbbaaGreat
