/- Rosters: places, sets of places, the members of a set: plain laws. -/
import Derived.Test.YtfdnnlcfolgegaaRosE
namespace Go.Proofs.Ytfdnnlcfolgegaa
open Go Go.RowKit

def Dv.pl (x : Dv) : Nat := (4 * x.a + x.d).toNat
theorem big_iff {x : Dv} : x.big = false ↔ x.a < 8 ∧ x.d < 4 := by
  unfold Dv.big
  simp only [Bool.or_eq_false_iff, decide_eq_false_iff_not]
  omega
structure Small (xs : List Dv) : Prop where
  s : ∀ x ∈ xs, x.big = false
theorem small_iff {xs : List Dv} : xs.any Dv.big = false ↔ Small xs := by
  rw [List.any_eq_false]
  exact ⟨fun h => ⟨fun x hx => by simpa using h x hx⟩, fun h x hx => by simpa using h.s x hx⟩
theorem pl_lt {x : Dv} (ho : x.ok) (hb : x.big = false) : x.pl < 32 := by
  obtain ⟨a, b⟩ := big_iff.1 hb
  obtain ⟨⟨h1, _⟩, h2, _⟩ := ho
  unfold Dv.pl; omega
theorem pl_key {x y : Dv} (hx : x.ok) (hy : y.ok) (bx : x.big = false) (bd : y.big = false) : x.key < y.key ↔ x.pl < y.pl := by
  obtain ⟨a, b⟩ := big_iff.1 bx
  obtain ⟨c, d⟩ := big_iff.1 bd
  obtain ⟨⟨h1, _⟩, h2, _⟩ := hx
  obtain ⟨⟨h3, _⟩, h4, _⟩ := hy
  unfold Dv.pl Dv.key; omega
theorem pl_inj {x y : Dv} (hx : x.ok) (hy : y.ok) (bx : x.big = false) (bd : y.big = false) (h : x.pl = y.pl) : x = y := by
  obtain ⟨a, b⟩ := big_iff.1 bx
  obtain ⟨c, d⟩ := big_iff.1 bd
  refine key_inj hx hy ?_
  obtain ⟨⟨h1, _⟩, h2, _⟩ := hx
  obtain ⟨⟨h3, _⟩, h4, _⟩ := hy
  unfold Dv.pl at h
  unfold Dv.key; omega
theorem up_len {xs : List Dv} (h : Good xs) (hs : Small xs) : xs.length ≤ 32 := by
  have key : ∀ (k : Nat) (x : Dv), xs[k]? = some x → k ≤ x.pl := by
    intro k
    induction k with
    | zero => exact fun _ _ => Nat.zero_le _
    | succ k ih =>
      intro x hx
      obtain ⟨l2, e2⟩ := List.getElem?_eq_some_iff.1 hx
      have l1 : k < xs.length := by omega
      have hk := ih xs[k] (List.getElem?_eq_getElem l1)
      have := List.pairwise_iff_getElem.1 h.up k (k + 1) l1 l2 (by omega)
      rw [e2] at this
      have hm1 : xs[k] ∈ xs := List.getElem_mem _
      have hm2 : x ∈ xs := List.mem_of_getElem? hx
      have := (pl_key (h.ok _ hm1) (h.ok _ hm2) (hs.s _ hm1) (hs.s _ hm2)).1 this
      omega
  apply Nat.le_of_not_lt
  intro hlt
  have hx : xs[32]? = some xs[32] := List.getElem?_eq_getElem hlt
  have := key 32 _ hx
  have hm : xs[32] ∈ xs := List.getElem_mem _
  have := pl_lt (h.ok _ hm) (hs.s _ hm)
  omega
theorem up_ext : ∀ {xs ys : List Dv}, Up xs → Up ys → (∀ x, x ∈ xs ↔ x ∈ ys) → xs = ys
  | [], [], _, _, _ => rfl
  | [], y :: ys, _, _, h => absurd ((h y).2 (by simp)) (by simp)
  | x :: xs, [], _, _, h => absurd ((h x).1 (by simp)) (by simp)
  | x :: xs, y :: ys, h1, h2, h => by
    obtain ⟨a1, a2⟩ := List.pairwise_cons.1 h1
    obtain ⟨b1, b2⟩ := List.pairwise_cons.1 h2
    have e : x = y := by
      have hx := (h x).1 (by simp)
      have hy := (h y).2 (by simp)
      rcases List.mem_cons.1 hx with e | hx
      · exact e
      · rcases List.mem_cons.1 hy with e | hy
        · exact e.symm
        · have := a1 y hy; have := b1 x hx; omega
    subst e
    congr 1
    refine up_ext a2 b2 fun z => ?_
    have hz := h z
    constructor
    · intro hm
      rcases List.mem_cons.1 (hz.1 (by simp [hm])) with e | hm2
      · subst e; have := a1 z hm; omega
      · exact hm2
    · intro hm
      rcases List.mem_cons.1 (hz.2 (by simp [hm])) with e | hm2
      · subst e; have := b1 z hm; omega
      · exact hm2

/-! ### Sets of places -/
def sb (f : Nat → Bool) : List Bool := (List.range 32).map f
theorem sb_len (f : Nat → Bool) : (sb f).length = 32 := by simp [sb]
theorem sb_get {f : Nat → Bool} {p : Nat} (h : p < 32) : (sb f)[p]? = some (f p) := by
  unfold sb
  rw [List.getElem?_map, List.getElem?_range h]; rfl
theorem sb_set {f : Nat → Bool} {p : Nat} {b : Bool} (h : p < 32) : (sb f).set p b = sb (fun q => if q = p then b else f q) := by
  apply List.ext_getElem?
  intro i
  rw [List.getElem?_set]
  by_cases hi : i < 32
  · rw [sb_get hi, sb_get hi, sb_len]
    by_cases e : p = i
    · subst e; simp [h]
    · rw [if_neg e, if_neg (fun h => e h.symm)]
  · have e1 : (sb f)[i]? = none := List.getElem?_eq_none_iff.2 (by rw [sb_len]; omega)
    have e2 : (sb fun q => if q = p then b else f q)[i]? = none := List.getElem?_eq_none_iff.2 (by rw [sb_len]; omega)
    rw [e1, e2, if_neg (by omega)]
def bv (bs : List Bool) : List Value := bs.map Value.bool
theorem bv_set {bs : List Bool} {p : Nat} {b : Bool} : (bv bs).set p (.bool b) = bv (bs.set p b) := by simp [bv, List.map_set]
theorem bv_get {bs : List Bool} {p : Nat} {b : Bool} (h : bs[p]? = some b) : (bv bs)[p]? = some (.bool b) := by simp [bv, h]
theorem bv_len (bs : List Bool) : (bv bs).length = bs.length := by simp [bv]
def inPl (xs : List Dv) (p : Nat) : Bool := xs.any fun x => decide (x.pl = p)
theorem inPl_snoc {xs : List Dv} {x : Dv} : (fun q => if q = x.pl then true else inPl xs q) = inPl (xs ++ [x]) := by
  funext q
  unfold inPl
  rw [List.any_append]
  by_cases h : q = x.pl
  · simp [h]
  · simp [h, Ne.symm h]
theorem inPl_in {xs : List Dv} {d : Dv} (ho : DOk xs) (hs : Small xs) (hd : d.ok) (hb : d.big = false) : inPl xs d.pl = inF xs d := by
  unfold inPl inF
  by_cases h : d ∈ xs
  · rw [decide_eq_true h]
    exact List.any_eq_true.2 ⟨d, h, by simp⟩
  · rw [decide_eq_false h, List.any_eq_false]
    intro x hx
    simp only [decide_eq_true_eq]
    intro e
    exact h (pl_inj (ho x hx) hd (hs.s x hx) hb e ▸ hx)
def dvAt (i : Nat) : Dv := ⟨(i / 4 : Nat), (i % 4 : Nat)⟩
theorem dvAt_ok {i : Nat} (h : i < 32) : (dvAt i).ok ∧ (dvAt i).big = false ∧ (dvAt i).pl = i := by
  refine ⟨⟨⟨?_, ?_⟩, ?_, ?_⟩, big_iff.2 ⟨?_, ?_⟩, ?_⟩ <;> simp only [dvAt, Dv.pl] <;> omega
def listF (f : Nat → Bool) (n : Nat) : List Dv := ((List.range n).filter f).map dvAt
theorem listF_mem {f : Nat → Bool} {x : Dv} : x ∈ listF f 32 ↔ x.ok ∧ x.big = false ∧ f x.pl = true := by
  unfold listF
  rw [List.mem_map]
  constructor
  · rintro ⟨i, hi, rfl⟩
    obtain ⟨h1, h2⟩ := List.mem_filter.1 hi
    obtain ⟨a, b, c⟩ := dvAt_ok (List.mem_range.1 h1)
    exact ⟨a, b, by rw [c]; exact h2⟩
  · rintro ⟨a, b, c⟩
    have hl := pl_lt a b
    obtain ⟨a2, b2, c2⟩ := dvAt_ok hl
    exact ⟨x.pl, List.mem_filter.2 ⟨List.mem_range.2 hl, c⟩, pl_inj a2 a b2 b c2⟩
theorem listF_up (f : Nat → Bool) : Up (listF f 32) := by
  unfold Up listF
  rw [List.pairwise_map]
  have h : ((List.range 32).filter f).Pairwise (· < ·) := List.Pairwise.filter _ List.pairwise_lt_range
  refine List.Pairwise.imp_of_mem ?_ h
  intro a b ha hb hab
  obtain ⟨a1, a2, a3⟩ := dvAt_ok (List.mem_range.1 (List.mem_filter.1 ha).1)
  obtain ⟨b1, b2, b3⟩ := dvAt_ok (List.mem_range.1 (List.mem_filter.1 hb).1)
  rw [pl_key a1 b1 a2 b2, a3, b3]; exact hab
theorem listF_len (f : Nat → Bool) (n : Nat) : (listF f n).length ≤ n := by
  unfold listF
  rw [List.length_map]
  exact Nat.le_trans (List.length_filter_le _ _) (by simp)
theorem list_set {xs : List Dv} (h : Good xs) (hs : Small xs) : listF (inPl xs) 32 = xs := by
  refine up_ext (listF_up _) h.up fun x => ?_
  rw [listF_mem]
  constructor
  · rintro ⟨a, b, c⟩
    rw [inPl_in h.ok hs a b] at c
    exact of_decide_eq_true c
  · intro hx
    exact ⟨h.ok x hx, hs.s x hx, by rw [inPl_in h.ok hs (h.ok x hx) (hs.s x hx)]; exact decide_eq_true hx⟩
theorem nxt_small {inn : Bool} {xs : List Dv} {d : Dv} (h : Good xs) (hs : Small xs) (hb : d.big = false) : Small (nxtF inn xs d) := by
  unfold nxtF
  split
  · exact ⟨fun x hx => nomatch hx⟩
  · rename_i hne
    cases inn with
    | true => exact ⟨fun x hx => by rcases ins_mem.1 hx with rfl | hx; exact hb; exact hs.s x hx⟩
    | false =>
      have hm : d ∈ xs := by
        cases hh : inF xs d with
        | true => exact of_decide_eq_true hh
        | false => exact absurd hh hne
      exact ⟨fun x hx => hs.s x ((del_mem h.up h.ok hm).1 hx).1⟩
/-- A step of the set. -/
theorem set_step {inn : Bool} {xs : List Dv} {d : Dv} (h : Good xs) (hs : Small xs) (hd : d.ok) (hb : d.big = false) (hne : inF xs d ≠ inn) : sb (fun q => if q = d.pl then inn else inPl xs q) = sb (inPl (nxtF inn xs d)) := by
  unfold sb
  refine List.map_congr_left fun q hq => ?_
  have hq := List.mem_range.1 hq
  obtain ⟨a, b, c⟩ := dvAt_ok hq
  have e1 := inPl_in (xs := nxtF inn xs d) (nxt_good h hd).ok (nxt_small h hs hb) a b
  have e2 := inPl_in (xs := xs) h.ok hs a b
  rw [c] at e1 e2
  rw [e1, e2]
  have hiff : q = d.pl ↔ dvAt q = d := ⟨fun e => pl_inj a hd b hb (by rw [c]; exact e), fun e => by rw [← c, e]⟩
  unfold nxtF
  rw [if_neg hne]
  cases inn with
  | true =>
    unfold inF
    by_cases e : q = d.pl
    · rw [if_pos e]; exact (decide_eq_true (ins_mem.2 (.inl (hiff.1 e)))).symm
    · rw [if_neg e]
      simp only [if_true, ins_mem]
      have : ¬ dvAt q = d := fun h => e (hiff.2 h)
      simp [this]
  | false =>
    have hm : d ∈ xs := by
      cases hh : inF xs d with
      | true => exact of_decide_eq_true hh
      | false => exact absurd hh hne
    unfold inF
    simp only [Bool.false_eq_true, if_false, del_mem h.up h.ok hm]
    by_cases e : q = d.pl
    · rw [if_pos e]; simp [hiff.1 e]
    · rw [if_neg e]
      have : ¬ dvAt q = d := fun h => e (hiff.2 h)
      simp [this]
end Go.Proofs.Ytfdnnlcfolgegaa

namespace Go.Proofs.Ytfdnnlcfolgegaa
open Go Go.RowKit

def nwMs (d : Dv) : List Dv := if d.big then [] else [d]
def nwRs (g : List Int) (d : Dv) (y : Value) : Rs := if d.big then Rs.zero else ⟨g, 1, y⟩
def nwE (d : Dv) : Int := if d.big then 2 else 0
theorem new_any (g : List Int) (hg : g.length = 16) (d : Dv) (w : World) (hw : OK w (fpL []) [] w) :
    Fn Try.prog 13 [.agg (ints .u8 g).toArray, d.val] [] w IsSl (fun y => .tuple #[.agg (nwRs g d y).cells.toArray, .int .i64 (nwE d)]) (fun y => [ownR y 31 2 (nwMs d).length (vcs Dv.val (nwMs d))]) := by
  refine enterF Try.func13 rfl Try.ntmps13 rfl hw ?_
  refine WC.seq ?_
  refine WC.region ?_
  refine WL.to (To.box (cs := ints .u8 g) rfl rfl) rfl ?_ -- t2
  intro b2
  refine WL.to (To.box (cs := d.cells) rfl rfl) rfl ?_ -- t3
  intro b3
  refine WL.to (To.alloc (cs := Rs.zero.cells) zr27 rfl) rfl ?_ -- t4
  intro b4
  refine WL.y (Yl.assign rfl) rfl ?_ -- t5
  refine WL.nil ?_
  refine WC.seq ?_
  refine WC.seq ?_
  refine WC.region ?_
  refine WL.y (Yl.loadN ag31 rfl (by repeat (first | exact Take1.head | apply Take1.tail)) (by rfl) (by rfl)) rfl ?_ -- t6
  refine WL.to (To.buildSlice (vs := [.agg d.cells.toArray]) un25 zs31 rfl rfl (by intro u hu; simp at hu; subst hu; rfl) (by decide) (by decide)) rfl ?_ -- t7
  intro b7
  rw [show flat [Value.agg d.cells.toArray] = d.cells from rfl]
  refine WL.callC (xs := [.tmp 7]) (cap := []) rfl rfl en39 (by repeat (first | exact TakeL.nil | (apply TakeL.cons; · repeat (first | exact Take1.head | apply Take1.tail)))) (fun w hw => small_any (.slice (some ⟨b7, 0, none⟩) 1 1) [d] (by simp) w (hw.src (A := []) (rdDv.cs (show d.cells = vcs Dv.val [d] by simp [vcs_one, Dv.val, Value.cells])) (by repeat (first | exact Take1.head | apply Take1.tail))) hw.left.here) rfl ?_ -- t8 hailer/roster.small
  rintro ⟨⟩ -
  refine WL.y (Yl.not rfl) rfl ?_ -- t9
  refine WL.say (t := 9) (v' := .bool d.big) rfl (by simp) ?_
  refine WL.nil ?_
  refine WC.cond rfl (fun g9 => ?_) (fun g9 => ?_)
  · refine WC.seq ?_
    refine WC.region ?_
    refine WL.y (Yl.build rfl (cs := Rs.zero.cells) (fun _ => by kernel_rfl)) rfl ?_ -- t10
    refine WL.sto (Sto.agg sz27 rfl rfl (by repeat (first | exact Take1.head | apply Take1.tail)) (Rs.one rfl) rfl (by rfl) (Rs.put (r := Rs.zero) (q := Rs.zero) rfl)) (fun _ h => nomatch h) ?_ -- st 1
    refine WL.y (Yl.assign rfl) rfl ?_ -- t5
    refine WL.nil ?_
    refine WC.ret ?_
    repeat (first | (with_reducible refine peelT ?_) | (with_reducible refine peelB ?_) | (with_reducible refine peelTX ?_) | (with_reducible refine peelBX ?_) | (with_reducible refine peelBN ?_) | (with_reducible refine peelBO rfl ?_))
    refine retC2 (cs := Rs.zero.cells) (.inr rfl) Try.results13 ag27 rfl rfl (by repeat (first | exact Take1.head | apply Take1.tail)) (Rs.len18 rfl) fun w' h => ⟨.slice none 0 0, ⟨_, _, _, rfl⟩, by unfold nwRs nwE; rw [g9]; rfl, ?_⟩
    rw [show nwMs d = [] by unfold nwMs; rw [g9]; rfl]
    exact (h.addNil 31 2).sub (by repeat (first | exact TakeL.nil | (apply TakeL.cons; · repeat (first | exact Take1.head | apply Take1.tail))))
  · refine WC.skip ?_
    refine WC.seq ?_
    refine WC.region ?_
    refine WL.y (Yl.loadN ag23 rfl (by repeat (first | exact Take1.head | apply Take1.tail)) (by rw [ints_length, hg]; rfl) (show ((ints .u8 g).drop 0).take 16 = ints .u8 g by rw [List.drop_zero, List.take_of_length_le (by rw [ints_length]; omega)])) rfl ?_ -- t11
    refine WL.y (Yl.loadN ag31 rfl (by repeat (first | exact Take1.head | apply Take1.tail)) (by rfl) (by rfl)) rfl ?_ -- t12
    refine WL.to (To.buildSlice (vs := [.agg d.cells.toArray]) un25 zs31 rfl rfl (by intro u hu; simp at hu; subst hu; rfl) (by decide) (by decide)) rfl ?_ -- t13
    intro b13
    rw [show flat [Value.agg d.cells.toArray] = d.cells from rfl]
    refine WL.view (fun w h => h.blkOwn (b := b13) (size := 2) (n := 1) (by repeat (first | exact Take1.head | apply Take1.tail)) (by unfold maxLen; omega) rfl) ?_
    refine WL.y (Yl.build rfl (cs := (Rs.mk g 1 (.slice (some ⟨b13, 0, none⟩) 1 1)).cells) (build_ro hg _ _ ⟨_, _, _, rfl⟩)) rfl ?_ -- t14
    refine WL.sto (Sto.agg sz27 rfl rfl (by repeat (first | exact Take1.head | apply Take1.tail)) (Rs.one rfl) (Rs.len18 hg) (by rfl) (Rs.put (r := Rs.zero) rfl)) (fun _ h => nomatch h) ?_ -- st 2
    refine WL.y (Yl.assign rfl) rfl ?_ -- t5
    refine WL.nil ?_
    refine WC.ret ?_
    repeat (first | (with_reducible refine peelT ?_) | (with_reducible refine peelB ?_) | (with_reducible refine peelTX ?_) | (with_reducible refine peelBX ?_) | (with_reducible refine peelBN ?_) | (with_reducible refine peelBO rfl ?_))
    refine retC2 (cs := (Rs.mk g 1 (.slice (some ⟨b13, 0, none⟩) 1 1)).cells) (.inr rfl) Try.results13 ag27 rfl rfl (by repeat (first | exact Take1.head | apply Take1.tail)) (Rs.len18 hg) fun w' h => ⟨.slice (some ⟨b13, 0, none⟩) 1 1, ⟨_, _, _, rfl⟩, by unfold nwRs nwE; rw [g9]; rfl, ?_⟩
    rw [show nwMs d = [d] by unfold nwMs; rw [g9]; rfl]
    exact h.sub (by repeat (first | exact TakeL.nil | (apply TakeL.cons; · repeat (first | exact Take1.head | apply Take1.tail))))
def hdF (ms : List Dv) : Dv := ms.getD 0 d0
theorem head_any (r : Rs) (ms : List Dv) (hg : r.g.length = 16) (hl : ms.length ≤ 1099511627776) (w : World) (hx : RdS w (fpL []) r.v 2 ms.length (vcs Dv.val ms)) (hw : OK w (fpL []) [] w) :
    Fn Try.prog 17 [.agg r.cells.toArray] [] w (fun _ : Unit => True) (fun _ => .tuple #[(hdF ms).val, .bool (!decide (ms.length = 0))]) (fun _ => []) := by
  obtain ⟨ao, cap, hv, hcap, hml⟩ := hx.rd.form
  have a17 := Rs.at17 hg
  rw [hv] at a17 hx
  refine enterF Try.func17 rfl Try.ntmps17 rfl hw ?_
  refine WC.seq ?_
  refine WC.region ?_
  refine WL.to (To.box (cs := r.cells) rfl rfl) rfl ?_ -- t1
  intro b1
  refine WL.to (To.alloc (cs := d0.cells) zr31 rfl) rfl ?_ -- t2
  intro b2
  refine WL.y (Yl.assign rfl) rfl ?_ -- t3
  refine WL.nil ?_
  refine WC.seq ?_
  refine WC.seq ?_
  refine WC.region ?_
  refine WL.y (Yl.field fo27_2 rfl) rfl ?_ -- t4
  refine WL.y (Yl.load on25 rfl (by repeat (first | exact Take1.head | apply Take1.tail)) a17) rfl ?_ -- t5
  refine WL.y (Yl.len un25 rfl) rfl ?_ -- t6
  refine WL.y (Yl.eql rfl rfl) rfl ?_ -- t7
  refine WL.nil ?_
  refine WC.condD rfl (fun g7 => ?_) (fun g7 => ?_)
  · refine WC.seq ?_
    refine WC.region ?_
    refine WL.y (Yl.build rfl (cs := d0.cells) (fun _ => by kernel_rfl)) rfl ?_ -- t8
    refine WL.sto (Sto.agg sz31 rfl rfl (by repeat (first | exact Take1.head | apply Take1.tail)) (Dv.ones d0) rfl (by rfl) (show _ = d0.cells from rfl)) (fun _ h => nomatch h) ?_ -- st 1
    refine WL.y (Yl.assign rfl) rfl ?_ -- t3
    refine WL.nil ?_
    refine WC.ret ?_
    repeat (first | (with_reducible refine peelT ?_) | (with_reducible refine peelB ?_) | (with_reducible refine peelTX ?_) | (with_reducible refine peelBX ?_) | (with_reducible refine peelBN ?_) | (with_reducible refine peelBO rfl ?_))
    have h0 : ms = [] := List.eq_nil_of_length_eq_zero (by omega)
    subst h0
    exact retC2 (cs := d0.cells) (.inr rfl) Try.results17 ag31 rfl rfl (by repeat (first | exact Take1.head | apply Take1.tail)) rfl fun w' h => ⟨(), trivial, rfl, h.sub (by repeat (first | exact TakeL.nil | (apply TakeL.cons; · repeat (first | exact Take1.head | apply Take1.tail))))⟩
  · refine WC.skip ?_
    refine WC.seq ?_
    refine WC.region ?_
    obtain ⟨x, hxx⟩ : ∃ x, ms[0]? = some x := ⟨_, List.getElem?_eq_getElem (by omega)⟩
    have hh : hdF ms = x := getD_at hxx
    refine WL.y (Yl.field fo27_2 rfl) rfl ?_ -- t9
    refine WL.y (Yl.load on25 rfl (by repeat (first | exact Take1.head | apply Take1.tail)) a17) rfl ?_ -- t10
    refine WL.y (Yl.index (j := 0) un25 sz31 rfl rfl (Reads.s hx) rfl (by omega)) rfl ?_ -- t11
    refine WL.y (Yl.loadV (j := 0) (u := x) dvV dvAll rfl (Reads.s hx) rfl hxx) rfl ?_
    refine WL.sto (Sto.agg sz31 rfl rfl (by repeat (first | exact Take1.head | apply Take1.tail)) (Dv.ones x) rfl (by rfl) (show _ = x.cells from rfl)) (fun _ h => nomatch h) ?_ -- st 2
    refine WL.y (Yl.assign rfl) rfl ?_ -- t3
    refine WL.nil ?_
    refine WC.ret ?_
    repeat (first | (with_reducible refine peelT ?_) | (with_reducible refine peelB ?_) | (with_reducible refine peelTX ?_) | (with_reducible refine peelBX ?_) | (with_reducible refine peelBN ?_) | (with_reducible refine peelBO rfl ?_))
    exact retC2 (cs := x.cells) (.inr rfl) Try.results17 ag31 rfl rfl (by repeat (first | exact Take1.head | apply Take1.tail)) rfl fun w' h => ⟨(), trivial, by rw [hh, decide_eq_false (by omega)]; rfl, h.sub (by repeat (first | exact TakeL.nil | (apply TakeL.cons; · repeat (first | exact Take1.head | apply Take1.tail))))⟩
theorem pl_eq {x : Dv} (h : x.ok) : (x.pl : Int) = 4 * x.a + x.d := by
  obtain ⟨⟨h1, _⟩, h2, _⟩ := h
  unfold Dv.pl; omega
theorem place_any (x : Dv) (hx : x.ok) (w : World) (hw : OK w (fpL []) [] w) : Fn Try.prog 25 [x.val] [] w (fun _ : Unit => True) (fun _ => .int .u64 (x.pl : Int)) (fun _ => []) := by
  obtain ⟨⟨h1, h2⟩, h3, h4⟩ := id hx
  refine enterF Try.func25 rfl Try.ntmps25 rfl hw ?_
  refine WC.seq ?_
  refine WC.region ?_
  refine WL.to (To.box (cs := x.cells) rfl rfl) rfl ?_ -- t1
  intro b1
  refine WL.y (Yl.assign rfl) rfl ?_ -- t2
  refine WL.nil ?_
  refine WC.seq ?_
  refine WC.region ?_
  refine WL.y (Yl.field fo31_0 rfl) rfl ?_ -- t3
  refine WL.y (Yl.load on5 rfl (by repeat (first | exact Take1.head | apply Take1.tail)) (by rfl)) rfl ?_ -- t4
  refine WL.y (Yl.conv un5 un24 rfl (u64_in _ (by omega))) rfl ?_ -- t5
  refine WL.y (Yl.mul rfl rfl rfl) rfl ?_ -- t6
  refine WL.say (t := 6) (v' := .int .u64 (x.a * 4)) rfl (by rw [u64_in _ (by omega)]) ?_
  refine WL.y (Yl.field fo31_1 rfl) rfl ?_ -- t7
  refine WL.y (Yl.load on5 rfl (by repeat (first | exact Take1.head | apply Take1.tail)) (by rfl)) rfl ?_ -- t8
  refine WL.y (Yl.conv un5 un24 rfl (u64_in _ (by omega))) rfl ?_ -- t9
  refine WL.y (Yl.add rfl rfl rfl) rfl ?_ -- t10
  refine WL.say (t := 10) (v' := .int .u64 (x.pl : Int)) rfl (by rw [u64_in _ (by omega), pl_eq hx, Int.mul_comm]) ?_
  refine WL.y (Yl.assign rfl) rfl ?_ -- t2
  refine WL.nil ?_
  refine WC.ret ?_
  repeat (first | (with_reducible refine peelT ?_) | (with_reducible refine peelB ?_) | (with_reducible refine peelTX ?_) | (with_reducible refine peelBX ?_) | (with_reducible refine peelBN ?_) | (with_reducible refine peelBO rfl ?_))
  exact ret1 (.inr rfl) Try.results25 rfl fun w' h => ⟨(), trivial, rfl, h.sub (by repeat (first | exact TakeL.nil | (apply TakeL.cons; · repeat (first | exact Take1.head | apply Take1.tail))))⟩
theorem rplace_any (x : Dv) (hx : x.ok) (w : World) (hw : OK w (fpL []) [] w) : Fn Try.prog 26 [x.val] [] w (fun _ : Unit => True) (fun _ => .int .i64 (x.pl : Int)) (fun _ => []) := by
  obtain ⟨⟨h1, h2⟩, h3, h4⟩ := id hx
  refine enterF Try.func26 rfl Try.ntmps26 rfl hw ?_
  refine WC.seq ?_
  refine WC.region ?_
  refine WL.to (To.box (cs := x.cells) rfl rfl) rfl ?_ -- t1
  intro b1
  refine WL.y (Yl.assign rfl) rfl ?_ -- t2
  refine WL.nil ?_
  refine WC.seq ?_
  refine WC.region ?_
  refine WL.y (Yl.field fo31_0 rfl) rfl ?_ -- t3
  refine WL.y (Yl.load on5 rfl (by repeat (first | exact Take1.head | apply Take1.tail)) (by rfl)) rfl ?_ -- t4
  refine WL.y (Yl.conv un5 un3 rfl (IntWalk.i64_in _ (by omega))) rfl ?_ -- t5
  refine WL.y (Yl.mul rfl rfl (IntWalk.i64_in _ (by omega))) rfl ?_ -- t6
  refine WL.y (Yl.field fo31_1 rfl) rfl ?_ -- t7
  refine WL.y (Yl.load on5 rfl (by repeat (first | exact Take1.head | apply Take1.tail)) (by rfl)) rfl ?_ -- t8
  refine WL.y (Yl.conv un5 un3 rfl (IntWalk.i64_in _ (by omega))) rfl ?_ -- t9
  refine WL.y (Yl.add rfl rfl (IntWalk.i64_in _ (by omega))) rfl ?_ -- t10
  refine WL.say (t := 10) (v' := .int .i64 (x.pl : Int)) rfl (by rw [pl_eq hx]) ?_
  refine WL.y (Yl.assign rfl) rfl ?_ -- t2
  refine WL.nil ?_
  refine WC.ret ?_
  repeat (first | (with_reducible refine peelT ?_) | (with_reducible refine peelB ?_) | (with_reducible refine peelTX ?_) | (with_reducible refine peelBX ?_) | (with_reducible refine peelBN ?_) | (with_reducible refine peelBO rfl ?_))
  exact ret1 (.inr rfl) Try.results26 rfl fun w' h => ⟨(), trivial, rfl, h.sub (by repeat (first | exact TakeL.nil | (apply TakeL.cons; · repeat (first | exact Take1.head | apply Take1.tail))))⟩
theorem rsmall_any (x : Dv) (w : World) (hw : OK w (fpL []) [] w) : Fn Try.prog 36 [x.val] [] w (fun _ : Unit => True) (fun _ => .bool (!x.big)) (fun _ => []) := by
  refine enterF Try.func36 rfl Try.ntmps36 rfl hw ?_
  refine WC.seq ?_
  refine WC.region ?_
  refine WL.to (To.box (cs := x.cells) rfl rfl) rfl ?_ -- t1
  intro b1
  refine WL.y (Yl.assign rfl) rfl ?_ -- t2
  refine WL.nil ?_
  refine WC.seq ?_
  refine WC.region ?_
  refine WL.y (Yl.field fo31_0 rfl) rfl ?_ -- t3
  refine WL.y (Yl.load on5 rfl (by repeat (first | exact Take1.head | apply Take1.tail)) (by rfl)) rfl ?_ -- t4
  refine WL.y (Yl.lss rfl rfl) rfl ?_ -- t5
  refine WL.y (Yl.move rfl) rfl ?_ -- t6
  refine WL.both (t := 6) rfl (fun g6 => ?_) (fun g6 => ?_)
  · refine WL.on rfl rfl ?_
    refine WL.y (Yl.field fo31_1 rfl) rfl ?_ -- t7
    refine WL.on rfl rfl ?_
    refine WL.y (Yl.load on5 rfl (by repeat (first | exact Take1.head | apply Take1.tail)) (by rfl)) rfl ?_ -- t8
    refine WL.on rfl rfl ?_
    refine WL.y (Yl.lss rfl rfl) rfl ?_ -- t9
    refine WL.y (Yl.pickT rfl rfl) rfl ?_ -- t10
    refine WL.y (Yl.assign rfl) rfl ?_ -- t2
    refine WL.nil ?_
    refine WC.ret ?_
    repeat (first | (with_reducible refine peelT ?_) | (with_reducible refine peelB ?_) | (with_reducible refine peelTX ?_) | (with_reducible refine peelBX ?_) | (with_reducible refine peelBN ?_) | (with_reducible refine peelBO rfl ?_))
    exact ret1 (.inr rfl) Try.results36 rfl fun w' h => ⟨(), trivial, by
      have := of_decide_eq_true g6
      unfold Dv.big
      rw [show decide (8 ≤ x.a) = false by exact decide_eq_false (by omega), Bool.false_or, ← decide_not]
      congr 2
      rw [decide_eq_decide]; omega, h.sub (by repeat (first | exact TakeL.nil | (apply TakeL.cons; · repeat (first | exact Take1.head | apply Take1.tail))))⟩
  · refine WL.off rfl rfl rfl rfl ?_ -- t7
    refine WL.off rfl rfl rfl rfl ?_ -- t8
    refine WL.off rfl rfl rfl rfl ?_ -- t9
    refine WL.y (Yl.pickF rfl rfl) rfl ?_ -- t10
    refine WL.y (Yl.assign rfl) rfl ?_ -- t2
    refine WL.nil ?_
    refine WC.ret ?_
    repeat (first | (with_reducible refine peelT ?_) | (with_reducible refine peelB ?_) | (with_reducible refine peelTX ?_) | (with_reducible refine peelBX ?_) | (with_reducible refine peelBN ?_) | (with_reducible refine peelBO rfl ?_))
    exact ret1 (.inr rfl) Try.results36 rfl fun w' h => ⟨(), trivial, by
      have := of_decide_eq_false g6
      unfold Dv.big
      rw [show decide (8 ≤ x.a) = true by exact decide_eq_true (by omega)]
      rfl, h.sub (by repeat (first | exact TakeL.nil | (apply TakeL.cons; · repeat (first | exact Take1.head | apply Take1.tail))))⟩
theorem indexD_any (ao : Option Addr) (cap : Nat) (xs : List Dv) (d : Dv) (hl : xs.length ≤ 1099511627776) (ho : DOk xs) (hd : d.ok) (w : World) (hx : RdS w (fpL []) (.slice ao xs.length cap) 2 xs.length (vcs Dv.val xs)) (hw : OK w (fpL []) [] w) :
    Fn Try.prog 72 [.slice ao xs.length cap, d.val] [] w (fun i : Int => (0 ≤ i ↔ d ∈ xs)) (fun i => .int .i64 i) (fun _ => []) := by
  refine enterF Try.func72 rfl Try.ntmps72 rfl hw ?_
  refine WC.seq ?_
  refine WC.region ?_
  refine WL.to (To.box (cs := d.cells) rfl rfl) rfl ?_ -- t3
  intro b3
  refine WL.y (Yl.assign rfl) rfl ?_ -- t4
  refine WL.nil ?_
  refine WC.seq ?_
  refine WC.seq ?_
  refine WC.region ?_
  refine WL.y (Yl.move rfl) rfl ?_ -- t6
  refine WL.y (Yl.len un25 rfl) rfl ?_ -- t7
  refine WL.y (Yl.move rfl) rfl ?_ -- t8
  refine WL.nil ?_
  refine WC.block ?_
  refine WC.loop (α := Nat) (fun j => [(0, .slice ao xs.length cap), (3, .pointer (some ⟨b3, 0, none⟩)), (7, .int .i64 (xs.length : Int)), (8, .int .i64 (j : Int))]) (fun _ => [blkR b3 31 d.cells]) (fun j => j ≤ xs.length ∧ ¬ d ∈ xs.take j) (fun j => xs.length - j) 0 ⟨Nat.zero_le _, by simp⟩ ⟨(by repeat (first | exact Sub.nil | refine Sub.cons rfl ?_)), _, (by repeat (first | exact TakeL.nil | (apply TakeL.cons; · repeat (first | exact Take1.head | apply Take1.tail))))⟩ ?_
  rintro j ⟨hj, hno⟩
  refine WC.seq ?_
  refine WC.region ?_
  refine WL.y (Yl.lss rfl rfl) rfl ?_ -- t9
  refine WL.nil ?_
  refine WC.seq ?_
  refine WC.condD rfl (fun g9 => ?_) (fun g9 => ?_)
  · refine WC.skip ?_
    refine WC.seq ?_
    refine WC.block ?_
    refine WC.seq ?_
    refine WC.region ?_
    refine WL.y (Yl.move rfl) rfl ?_ -- t10
    refine WL.y (Yl.assign rfl) rfl ?_ -- t5
    refine WL.nil ?_
    refine WC.seq ?_
    obtain ⟨x, hxx⟩ : ∃ x, xs[j]? = some x := ⟨_, List.getElem?_eq_getElem (by omega)⟩
    refine WC.drawRead mixed (by kernel_rfl) ?_
    refine WH.y (Yl.loadN ag31 rfl (by repeat (first | exact Take1.head | apply Take1.tail)) (by rfl) (by rfl)) rfl ?_ -- t11
    refine WH.y (Yl.move rfl) rfl ?_ -- t12
    refine WH.y (Yl.move rfl) rfl ?_ -- t13
    refine WH.y (Yl.index un25 sz31 rfl rfl (Reads.s hx) rfl (by omega)) rfl ?_ -- t14
    refine WH.y (Yl.loadV (j := j) (u := x) dvV dvAll rfl (Reads.s hx) rfl hxx) rfl ?_
    refine WH.y (Yl.eqA (xs := d.cells) (ys := x.cells) flatD rfl rfl (Dv.fits hd) (Dv.fits (ho x (List.mem_of_getElem? hxx)))) rfl ?_
    refine WH.say (t := 16) (v' := .bool (decide (d = x))) rfl (by rw [Dv.eqV]) ?_
    refine WH.nil ?_
    refine WC.condD rfl (fun g16 => ?_) (fun g16 => ?_)
    · refine WC.seq ?_
      refine WC.region ?_
      refine WL.y (Yl.move rfl) rfl ?_ -- t17
      refine WL.y (Yl.assign rfl) rfl ?_ -- t4
      refine WL.nil ?_
      refine WC.ret ?_
      repeat (first | (with_reducible refine peelT ?_) | (with_reducible refine peelB ?_) | (with_reducible refine peelTX ?_) | (with_reducible refine peelBX ?_) | (with_reducible refine peelBN ?_) | (with_reducible refine peelBO rfl ?_))
      exact ret1 (.inr rfl) Try.results72 rfl fun w' h => ⟨(j : Int), ⟨fun _ => by rw [g16]; exact List.mem_of_getElem? hxx, fun _ => by omega⟩, rfl, h.sub (by repeat (first | exact TakeL.nil | (apply TakeL.cons; · repeat (first | exact Take1.head | apply Take1.tail))))⟩
    · refine WC.skip ?_
      refine WC.region ?_
      refine WL.y (Yl.add rfl rfl (IntWalk.i64_in _ (by omega))) rfl ?_ -- t18
      refine WL.y (Yl.move rfl) rfl ?_ -- t8
      refine WL.nil ?_
      exact ⟨rfl, j + 1, ⟨by omega, by rw [← take_snoc _ _ _ hxx, List.mem_append, List.mem_singleton]; exact fun e => e.elim hno g16⟩, by omega, (by repeat (first | exact Sub.nil | refine Sub.cons rfl ?_)), _, (by repeat (first | exact TakeL.nil | (apply TakeL.cons; · repeat (first | exact Take1.head | apply Take1.tail))))⟩
  · refine WC.exit ?_
    refine WC.seq ?_
    refine WC.region ?_
    refine WL.y (Yl.assign rfl) rfl ?_ -- t4
    refine WL.nil ?_
    refine WC.ret ?_
    repeat (first | (with_reducible refine peelT ?_) | (with_reducible refine peelB ?_) | (with_reducible refine peelTX ?_) | (with_reducible refine peelBX ?_) | (with_reducible refine peelBN ?_) | (with_reducible refine peelBO rfl ?_))
    have hjn : j = xs.length := by omega
    subst hjn
    rw [List.take_length] at hno
    exact ret1 (.inr rfl) Try.results72 rfl fun w' h => ⟨-1, by simp [hno], rfl, h.sub (by repeat (first | exact TakeL.nil | (apply TakeL.cons; · repeat (first | exact Take1.head | apply Take1.tail))))⟩
theorem contD_any (ao : Option Addr) (cap : Nat) (xs : List Dv) (d : Dv) (hl : xs.length ≤ 1099511627776) (ho : DOk xs) (hd : d.ok) (w : World) (hx : RdS w (fpL []) (.slice ao xs.length cap) 2 xs.length (vcs Dv.val xs)) (hw : OK w (fpL []) [] w) :
    Fn Try.prog 52 [.slice ao xs.length cap, d.val] [] w (fun _ : Unit => True) (fun _ => .bool (inF xs d)) (fun _ => []) := by
  refine enterF Try.func52 rfl Try.ntmps52 rfl hw ?_
  refine WC.seq ?_
  refine WC.region ?_
  refine WL.to (To.box (cs := d.cells) rfl rfl) rfl ?_ -- t3
  intro b3
  refine WL.y (Yl.assign rfl) rfl ?_ -- t4
  refine WL.nil ?_
  refine WC.seq ?_
  refine WC.region ?_
  refine WL.y (Yl.move rfl) rfl ?_ -- t5
  refine WL.y (Yl.loadN ag31 rfl (by repeat (first | exact Take1.head | apply Take1.tail)) (by rfl) (by rfl)) rfl ?_ -- t6
  refine WL.callC (xs := [.tmp 5, .tmp 6]) (cap := []) rfl rfl en72 (by repeat (first | exact TakeL.nil | (apply TakeL.cons; · repeat (first | exact Take1.head | apply Take1.tail)))) (fun w hw => indexD_any ao cap xs d hl ho hd w (hw.srcS (A := []) hx) hw.left.here) rfl ?_ -- t7 slices.Index[[]hailer/api.Dev,hailer/api.Dev]
  intro i hi
  refine WL.y (Yl.geq rfl rfl) rfl ?_ -- t8
  refine WL.y (Yl.assign rfl) rfl ?_ -- t4
  refine WL.nil ?_
  refine WC.ret ?_
  repeat (first | (with_reducible refine peelT ?_) | (with_reducible refine peelB ?_) | (with_reducible refine peelTX ?_) | (with_reducible refine peelBX ?_) | (with_reducible refine peelBN ?_) | (with_reducible refine peelBO rfl ?_))
  exact ret1 (.inr rfl) Try.results52 rfl fun w' h => ⟨(), trivial, by
    unfold inF
    rw [decide_eq_decide.2 hi], h.sub (by repeat (first | exact TakeL.nil | (apply TakeL.cons; · repeat (first | exact Take1.head | apply Take1.tail))))⟩
theorem has_any (r : Rs) (xs : List Dv) (d : Dv) (hg : r.g.length = 16) (hl : xs.length ≤ 1099511627776) (ho : DOk xs) (hd : d.ok) (w : World) (hx : RdS w (fpL []) r.v 2 xs.length (vcs Dv.val xs)) (hw : OK w (fpL []) [] w) :
    Fn Try.prog 23 [.agg r.cells.toArray, d.val] [] w (fun _ : Unit => True) (fun _ => .bool (inF xs d)) (fun _ => []) := by
  obtain ⟨ao, cap, hv, hcap, hml⟩ := hx.rd.form
  have a17 := Rs.at17 hg
  rw [hv] at a17 hx
  refine enterF Try.func23 rfl Try.ntmps23 rfl hw ?_
  refine WC.seq ?_
  refine WC.region ?_
  refine WL.to (To.box (cs := r.cells) rfl rfl) rfl ?_ -- t2
  intro b2
  refine WL.to (To.box (cs := d.cells) rfl rfl) rfl ?_ -- t3
  intro b3
  refine WL.y (Yl.assign rfl) rfl ?_ -- t4
  refine WL.nil ?_
  refine WC.seq ?_
  refine WC.region ?_
  refine WL.y (Yl.field fo27_2 rfl) rfl ?_ -- t5
  refine WL.y (Yl.load on25 rfl (by repeat (first | exact Take1.head | apply Take1.tail)) a17) rfl ?_ -- t6
  refine WL.y (Yl.loadN ag31 rfl (by repeat (first | exact Take1.head | apply Take1.tail)) (by rfl) (by rfl)) rfl ?_ -- t7
  refine WL.callC (xs := [.tmp 6, .tmp 7]) (cap := []) rfl rfl en52 (by repeat (first | exact TakeL.nil | (apply TakeL.cons; · repeat (first | exact Take1.head | apply Take1.tail)))) (fun w hw => contD_any ao cap xs d hl ho hd w (hw.srcS (A := []) hx) hw.left.here) rfl ?_ -- t8 slices.Contains[[]hailer/api.Dev,hailer/api.Dev]
  rintro ⟨⟩ -
  refine WL.y (Yl.assign rfl) rfl ?_ -- t4
  refine WL.nil ?_
  refine WC.ret ?_
  repeat (first | (with_reducible refine peelT ?_) | (with_reducible refine peelB ?_) | (with_reducible refine peelTX ?_) | (with_reducible refine peelBX ?_) | (with_reducible refine peelBN ?_) | (with_reducible refine peelBO rfl ?_))
  exact ret1 (.inr rfl) Try.results23 rfl fun w' h => ⟨(), trivial, rfl, h.sub (by repeat (first | exact TakeL.nil | (apply TakeL.cons; · repeat (first | exact Take1.head | apply Take1.tail))))⟩
theorem up_of {xs : List Dv} (h : ∀ (j : Nat) (x y : Dv), xs[j]? = some x → xs[j + 1]? = some y → x.key < y.key) : Up xs := by
  unfold Up
  rw [List.pairwise_iff_getElem]
  intro i j hi hj hij
  induction j with
  | zero => omega
  | succ j ih =>
    have k1 := h j _ _ (List.getElem?_eq_getElem (show j < xs.length by omega)) (List.getElem?_eq_getElem hj)
    by_cases e : i = j
    · subst e; exact k1
    · have := ih (by omega) (by omega); omega
def lastF (ms : List Dv) : Nat → Int
  | 0 => -1
  | k + 1 => ((ms.getD k d0).pl : Int)
set_option maxRecDepth 100000 in
theorem rmay_any (r : Rs) (ms : List Dv) (hg : r.g.length = 16) (hl : ms.length ≤ 1099511627776) (ho : DOk ms) (w : World) (hx : RdS w (fpL []) r.v 2 ms.length (vcs Dv.val ms)) (hw : OK w (fpL []) [] w) :
    Fn Try.prog 18 [.agg r.cells.toArray] [] w (fun _ : Unit => True) (fun _ => .bool (mayF r.e ms)) (fun _ => []) := by
  obtain ⟨ao, cap, hv, hcap, hml⟩ := hx.rd.form
  have a16 := Rs.at16 hg
  have a17 := Rs.at17 hg
  rw [hv] at a17 hx
  refine enterF Try.func18 rfl Try.ntmps18 rfl hw ?_
  refine WC.seq ?_
  refine WC.region ?_
  refine WL.to (To.box (cs := r.cells) rfl rfl) rfl ?_ -- t1
  intro b1
  refine WL.y (Yl.assign rfl) rfl ?_ -- t2
  refine WL.nil ?_
  refine WC.seq ?_
  refine WC.seq ?_
  refine WC.region ?_
  refine WL.y (Yl.field fo27_1 rfl) rfl ?_ -- t5
  refine WL.y (Yl.load on24 rfl (by repeat (first | exact Take1.head | apply Take1.tail)) a16) rfl ?_ -- t6
  refine WL.y (Yl.lss rfl rfl) rfl ?_ -- t7
  refine WL.y (Yl.move rfl) rfl ?_ -- t8
  refine WL.both (t := 8) rfl (fun g8 => ?_) (fun g8 => ?_)
  · refine WL.off rfl rfl rfl rfl ?_ -- t9
    refine WL.off rfl rfl rfl rfl ?_ -- t10
    refine WL.off rfl rfl rfl rfl ?_ -- t11
    refine WL.y (Yl.pickT rfl rfl) rfl ?_ -- t12
    refine WL.nil ?_
    refine WC.condT rfl (by first | rfl | (simp; done) | (simp; omega)) ?_
    refine WC.seq ?_
    refine WC.region ?_
    refine WL.y (Yl.assign rfl) rfl ?_ -- t2
    refine WL.nil ?_
    refine WC.ret ?_
    repeat (first | (with_reducible refine peelT ?_) | (with_reducible refine peelB ?_) | (with_reducible refine peelTX ?_) | (with_reducible refine peelBX ?_) | (with_reducible refine peelBN ?_) | (with_reducible refine peelBO rfl ?_))
    exact ret1 (.inr rfl) Try.results18 rfl fun w' h => ⟨(), trivial, by unfold mayF; rw [g8]; rfl, h.sub (by repeat (first | exact TakeL.nil | (apply TakeL.cons; · repeat (first | exact Take1.head | apply Take1.tail))))⟩
  · refine WL.on rfl rfl ?_
    refine WL.y (Yl.field fo27_1 rfl) rfl ?_ -- t9
    refine WL.on rfl rfl ?_
    refine WL.y (Yl.load on24 rfl (by repeat (first | exact Take1.head | apply Take1.tail)) a16) rfl ?_ -- t10
    refine WL.on rfl rfl ?_
    refine WL.y (Yl.gtr rfl rfl) rfl ?_ -- t11
    refine WL.y (Yl.pickF rfl rfl) rfl ?_ -- t12
    refine WL.nil ?_
    refine WC.cond rfl (fun g12 => ?_) (fun g12 => ?_)
    · refine WC.seq ?_
      refine WC.region ?_
      refine WL.y (Yl.assign rfl) rfl ?_ -- t2
      refine WL.nil ?_
      refine WC.ret ?_
      repeat (first | (with_reducible refine peelT ?_) | (with_reducible refine peelB ?_) | (with_reducible refine peelTX ?_) | (with_reducible refine peelBX ?_) | (with_reducible refine peelBN ?_) | (with_reducible refine peelBO rfl ?_))
      exact ret1 (.inr rfl) Try.results18 rfl fun w' h => ⟨(), trivial, by unfold mayF; rw [g12]; simp, h.sub (by repeat (first | exact TakeL.nil | (apply TakeL.cons; · repeat (first | exact Take1.head | apply Take1.tail))))⟩
    · refine WC.skip ?_
      refine WC.seq ?_
      refine WC.region ?_
      refine WL.y (Yl.assign rfl) rfl ?_ -- t3
      refine WL.nil ?_
      refine WC.seq ?_
      refine WC.seq ?_
      refine WC.region ?_
      refine WL.y (Yl.assign rfl) rfl ?_ -- t4
      refine WL.nil ?_
      refine WC.block ?_
      refine WC.loop (α := Nat) (fun k => [(1, .pointer (some ⟨b1, 0, none⟩)), (3, .int .i64 (lastF ms k)), (4, .int .i64 (k : Int))]) (fun _ => [blkR b1 27 r.cells]) (fun k => k ≤ ms.length ∧ (∀ j x, j < k → ms[j]? = some x → x.big = false) ∧ (∀ j x y, j + 1 < k → ms[j]? = some x → ms[j + 1]? = some y → x.pl < y.pl)) (fun k => ms.length - k) 0 ⟨Nat.zero_le _, (fun j x h => absurd h (Nat.not_lt_zero _)), fun j x y h => absurd h (Nat.not_lt_zero _)⟩ ⟨(by repeat (first | exact Sub.nil | refine Sub.cons rfl ?_)), _, (by repeat (first | exact TakeL.nil | (apply TakeL.cons; · repeat (first | exact Take1.head | apply Take1.tail))))⟩ ?_
      rintro k ⟨hk, hsm, hup⟩
      refine WC.seq ?_
      refine WC.seq ?_
      refine WC.region ?_
      refine WL.y (Yl.move rfl) rfl ?_ -- t13
      refine WL.y (Yl.field fo27_2 rfl) rfl ?_ -- t14
      refine WL.y (Yl.load on25 rfl (by repeat (first | exact Take1.head | apply Take1.tail)) a17) rfl ?_ -- t15
      refine WL.y (Yl.len un25 rfl) rfl ?_ -- t16
      refine WL.y (Yl.lss rfl rfl) rfl ?_ -- t17
      refine WL.nil ?_
      refine WC.condD rfl (fun g17 => ?_) (fun g17 => ?_)
      · refine WC.skip ?_
        refine WC.seq ?_
        refine WC.block ?_
        refine WC.seq ?_
        refine WC.seq ?_
        obtain ⟨x, hxx⟩ : ∃ x, ms[k]? = some x := ⟨_, List.getElem?_eq_getElem (by omega)⟩
        have hxo := ho x (List.mem_of_getElem? hxx)
        refine WC.region ?_
        refine WL.y (Yl.field fo27_2 rfl) rfl ?_ -- t20
        refine WL.y (Yl.load on25 rfl (by repeat (first | exact Take1.head | apply Take1.tail)) a17) rfl ?_ -- t21
        refine WL.y (Yl.move rfl) rfl ?_ -- t22
        refine WL.y (Yl.index un25 sz31 rfl rfl (Reads.s hx) rfl (by omega)) rfl ?_ -- t23
        refine WL.y (Yl.loadV (j := k) (u := x) dvV dvAll rfl (Reads.s hx) rfl hxx) rfl ?_
        refine WL.callC (xs := [.tmp 24]) (cap := []) rfl rfl en36 (by repeat (first | exact TakeL.nil | (apply TakeL.cons; · repeat (first | exact Take1.head | apply Take1.tail)))) (fun w hw => rsmall_any x w hw.left.here) rfl ?_ -- t25 hailer/hailerref23.small
        rintro ⟨⟩ -
        refine WL.y (Yl.not rfl) rfl ?_ -- t26
        refine WL.y (Yl.move rfl) rfl ?_ -- t27
        refine WL.both (t := 27) rfl (fun g27 => ?_) (fun g27 => ?_)
        · refine WL.off rfl rfl rfl rfl ?_ -- t28
          refine WL.off rfl rfl rfl rfl ?_ -- t29
          refine WL.off rfl rfl rfl rfl ?_ -- t30
          refine WL.off rfl rfl rfl rfl ?_ -- t31
          refine WL.off rfl rfl rfl rfl ?_ -- t32
          refine WL.off rfl rfl rfl rfl ?_ -- t33
          refine WL.off rfl rfl rfl rfl ?_ -- t34
          refine WL.off rfl rfl rfl rfl ?_ -- t35
          refine WL.y (Yl.pickT rfl rfl) rfl ?_ -- t36
          refine WL.nil ?_
          refine WC.condT rfl (by first | rfl | (simp; done) | (simp; omega)) ?_
          refine WC.seq ?_
          refine WC.region ?_
          refine WL.y (Yl.assign rfl) rfl ?_ -- t2
          refine WL.nil ?_
          refine WC.ret ?_
          repeat (first | (with_reducible refine peelT ?_) | (with_reducible refine peelB ?_) | (with_reducible refine peelTX ?_) | (with_reducible refine peelBX ?_) | (with_reducible refine peelBN ?_) | (with_reducible refine peelBO rfl ?_))
          exact ret1 (.inr rfl) Try.results18 rfl fun w' h => ⟨(), trivial, by
            have : ms.any Dv.big = true := List.any_eq_true.2 ⟨x, List.mem_of_getElem? hxx, by simpa using g27⟩
            unfold mayF
            rw [this]; simp, h.sub (by repeat (first | exact TakeL.nil | (apply TakeL.cons; · repeat (first | exact Take1.head | apply Take1.tail))))⟩
        · refine WL.on rfl rfl ?_
          refine WL.y (Yl.field fo27_2 rfl) rfl ?_ -- t28
          refine WL.on rfl rfl ?_
          refine WL.y (Yl.load on25 rfl (by repeat (first | exact Take1.head | apply Take1.tail)) a17) rfl ?_ -- t29
          refine WL.on rfl rfl ?_
          refine WL.y (Yl.move rfl) rfl ?_ -- t30
          refine WL.on rfl rfl ?_
          refine WL.y (Yl.index un25 sz31 rfl rfl (Reads.s hx) rfl (by omega)) rfl ?_ -- t31
          refine WL.on rfl rfl ?_
          refine WL.y (Yl.loadV (j := k) (u := x) dvV dvAll rfl (Reads.s hx) rfl hxx) rfl ?_
          refine WL.on rfl rfl ?_
          refine WL.callC (xs := [.tmp 32]) (cap := []) rfl rfl en26 (by repeat (first | exact TakeL.nil | (apply TakeL.cons; · repeat (first | exact Take1.head | apply Take1.tail)))) (fun w hw => rplace_any x hxo w hw.left.here) rfl ?_ -- t33 hailer/hailerref23.Place
          rintro ⟨⟩ -
          refine WL.on rfl rfl ?_
          refine WL.y (Yl.move rfl) rfl ?_ -- t34
          refine WL.on rfl rfl ?_
          refine WL.y (Yl.leq rfl rfl) rfl ?_ -- t35
          refine WL.y (Yl.pickF rfl rfl) rfl ?_ -- t36
          refine WL.nil ?_
          refine WC.condD rfl (fun g36 => ?_) (fun g36 => ?_)
          · refine WC.seq ?_
            refine WC.region ?_
            refine WL.y (Yl.assign rfl) rfl ?_ -- t2
            refine WL.nil ?_
            refine WC.ret ?_
            repeat (first | (with_reducible refine peelT ?_) | (with_reducible refine peelB ?_) | (with_reducible refine peelTX ?_) | (with_reducible refine peelBX ?_) | (with_reducible refine peelBN ?_) | (with_reducible refine peelBO rfl ?_))
            exact ret1 (.inr rfl) Try.results18 rfl fun w' h => ⟨(), trivial, by
              cases hm : mayF r.e ms with
              | false => rfl
              | true =>
                obtain ⟨_, _, _, hb, hgd⟩ := (mayF_iff ho).1 hm
                cases k with
                | zero => have : (x.pl : Int) ≤ -1 := g36; omega
                | succ j =>
                  obtain ⟨y, hyy⟩ : ∃ y, ms[j]? = some y := ⟨_, List.getElem?_eq_getElem (by omega)⟩
                  have h1 : (x.pl : Int) ≤ ((ms.getD j d0).pl : Int) := g36
                  rw [getD_at hyy] at h1
                  obtain ⟨l1, e1⟩ := List.getElem?_eq_some_iff.1 hyy
                  obtain ⟨l2, e2⟩ := List.getElem?_eq_some_iff.1 hxx
                  have := List.pairwise_iff_getElem.1 hgd.up j (j + 1) l1 l2 (by omega)
                  rw [e1, e2, pl_key (ho y (List.mem_of_getElem? hyy)) hxo ((small_iff.1 hb).s y (List.mem_of_getElem? hyy)) ((small_iff.1 hb).s x (List.mem_of_getElem? hxx))] at this
                  omega, h.sub (by repeat (first | exact TakeL.nil | (apply TakeL.cons; · repeat (first | exact Take1.head | apply Take1.tail))))⟩
          · refine WC.skip ?_
            refine WC.region ?_
            refine WL.y (Yl.field fo27_2 rfl) rfl ?_ -- t37
            refine WL.y (Yl.load on25 rfl (by repeat (first | exact Take1.head | apply Take1.tail)) a17) rfl ?_ -- t38
            refine WL.y (Yl.move rfl) rfl ?_ -- t39
            refine WL.y (Yl.index un25 sz31 rfl rfl (Reads.s hx) rfl (by omega)) rfl ?_ -- t40
            refine WL.y (Yl.loadV (j := k) (u := x) dvV dvAll rfl (Reads.s hx) rfl hxx) rfl ?_
            refine WL.callC (xs := [.tmp 41]) (cap := []) rfl rfl en26 (by repeat (first | exact TakeL.nil | (apply TakeL.cons; · repeat (first | exact Take1.head | apply Take1.tail)))) (fun w hw => rplace_any x hxo w hw.left.here) rfl ?_ -- t42 hailer/hailerref23.Place
            rintro ⟨⟩ -
            refine WL.say (t := 42) (v' := .int .i64 (lastF ms (k + 1))) rfl (by show _ = Value.int .i64 ((ms.getD k d0).pl : Int); rw [getD_at hxx]) ?_
            refine WL.y (Yl.assign rfl) rfl ?_ -- t3
            refine WL.nil ?_
            refine WC.region ?_
            refine WL.y (Yl.move rfl) rfl ?_ -- t18
            refine WL.y (Yl.add rfl rfl (IntWalk.i64_in _ (by omega))) rfl ?_ -- t19
            refine WL.y (Yl.assign rfl) rfl ?_ -- t4
            refine WL.nil ?_
            exact ⟨rfl, k + 1, ⟨by omega, fun j z hj hz => by
              by_cases e : j = k
              · subst e; rw [hxx] at hz; cases hz; simpa using g27
              · exact hsm j z (by omega) hz, fun j y z hj hy hz => by
              by_cases e : j + 1 = k
              · subst e
                rw [hxx] at hz; cases hz
                have : ¬ (x.pl : Int) ≤ ((ms.getD j d0).pl : Int) := g36
                rw [getD_at hy] at this
                omega
              · exact hup j y z (by omega) hy hz⟩, by omega, (by repeat (first | exact Sub.nil | refine Sub.cons rfl ?_)), _, (by repeat (first | exact TakeL.nil | (apply TakeL.cons; · repeat (first | exact Take1.head | apply Take1.tail))))⟩
      · refine WC.exit ?_
        refine WC.seq ?_
        refine WC.region ?_
        refine WL.y (Yl.assign rfl) rfl ?_ -- t2
        refine WL.nil ?_
        refine WC.ret ?_
        repeat (first | (with_reducible refine peelT ?_) | (with_reducible refine peelB ?_) | (with_reducible refine peelTX ?_) | (with_reducible refine peelBX ?_) | (with_reducible refine peelBN ?_) | (with_reducible refine peelBO rfl ?_))
        have hkn : k = ms.length := by omega
        subst hkn
        have hs : Small ms := ⟨fun x hx => by obtain ⟨j, hj⟩ := List.getElem?_of_mem hx; exact hsm j x (List.getElem?_eq_some_iff.1 hj).1 hj⟩
        have hu : Up ms := up_of fun j x y h1 h2 => (pl_key (ho x (List.mem_of_getElem? h1)) (ho y (List.mem_of_getElem? h2)) (hs.s x (List.mem_of_getElem? h1)) (hs.s y (List.mem_of_getElem? h2))).2 (hup j x y (List.getElem?_eq_some_iff.1 h2).1 h1 h2)
        have hm : mayF r.e ms = true := (mayF_iff ho).2 ⟨by have := of_decide_eq_false g8; omega, by have := of_decide_eq_false g12; omega, up_len ⟨hu, ho⟩ hs, small_iff.2 hs, hu, ho⟩
        exact ret1 (.inr rfl) Try.results18 rfl fun w' h => ⟨(), trivial, by rw [hm], h.sub (by repeat (first | exact TakeL.nil | (apply TakeL.cons; · repeat (first | exact Take1.head | apply Take1.tail))))⟩
theorem rset_any (r : Rs) (ms : List Dv) (hg : r.g.length = 16) (hl : ms.length ≤ 1099511627776) (ho : DOk ms) (hs : Small ms) (w : World) (hx : RdS w (fpL []) r.v 2 ms.length (vcs Dv.val ms)) (hw : OK w (fpL []) [] w) :
    Fn Try.prog 37 [.agg r.cells.toArray] [] w (fun _ : Nat => True) (fun b => .slice (some ⟨b, 0, none⟩) 32 32) (fun b => [ownR (.slice (some ⟨b, 0, none⟩) 32 32) 4 1 32 (bv (sb (inPl ms)))]) := by
  obtain ⟨ao, cap, hv, hcap, hml⟩ := hx.rd.form
  have a17 := Rs.at17 hg
  rw [hv] at a17 hx
  refine enterF Try.func37 rfl Try.ntmps37 rfl hw ?_
  refine WC.seq ?_
  refine WC.region ?_
  refine WL.to (To.box (cs := r.cells) rfl rfl) rfl ?_ -- t1
  intro b1
  refine WL.y (Yl.assign rfl) rfl ?_ -- t2
  refine WL.nil ?_
  refine WC.seq ?_
  refine WC.region ?_
  refine WL.to (To.makeSlice (n := 32) un68 zb68_4 rfl rfl rfl (by omega) (by unfold maxLen; omega)) rfl ?_ -- t5
  intro b5
  rw [show List.replicate 32 (Value.bool false) = bv (sb (inPl [])) from rfl]
  refine WL.view (fun w h => h.blkOwn (b := b5) (size := 1) (n := 32) (by repeat (first | exact Take1.head | apply Take1.tail)) (by unfold maxLen; omega) rfl) ?_
  refine WL.y (Yl.assign rfl) rfl ?_ -- t3
  refine WL.nil ?_
  refine WC.seq ?_
  refine WC.seq ?_
  refine WC.region ?_
  refine WL.y (Yl.assign rfl) rfl ?_ -- t4
  refine WL.nil ?_
  refine WC.block ?_
  refine WC.loop (α := Nat) (fun k => [(1, .pointer (some ⟨b1, 0, none⟩)), (3, .slice (some ⟨b5, 0, none⟩) 32 32), (4, .int .i64 (k : Int))]) (fun k => [blkR b1 27 r.cells, ownR (.slice (some ⟨b5, 0, none⟩) 32 32) 4 1 32 (bv (sb (inPl (ms.take k))))]) (fun k => k ≤ ms.length) (fun k => ms.length - k) 0 (Nat.zero_le _) ⟨(by repeat (first | exact Sub.nil | refine Sub.cons rfl ?_)), _, (by repeat (first | exact TakeL.nil | (apply TakeL.cons; · repeat (first | exact Take1.head | apply Take1.tail))))⟩ ?_
  rintro k hk
  refine WC.seq ?_
  refine WC.seq ?_
  refine WC.region ?_
  refine WL.y (Yl.move rfl) rfl ?_ -- t6
  refine WL.y (Yl.field fo27_2 rfl) rfl ?_ -- t7
  refine WL.y (Yl.load on25 rfl (by repeat (first | exact Take1.head | apply Take1.tail)) a17) rfl ?_ -- t8
  refine WL.y (Yl.len un25 rfl) rfl ?_ -- t9
  refine WL.y (Yl.lss rfl rfl) rfl ?_ -- t10
  refine WL.nil ?_
  refine WC.condD rfl (fun g10 => ?_) (fun g10 => ?_)
  · refine WC.skip ?_
    refine WC.seq ?_
    refine WC.block ?_
    obtain ⟨x, hxx⟩ : ∃ x, ms[k]? = some x := ⟨_, List.getElem?_eq_getElem (by omega)⟩
    have hxo := ho x (List.mem_of_getElem? hxx)
    have hpl := pl_lt hxo (hs.s x (List.mem_of_getElem? hxx))
    refine WC.region ?_
    refine WL.y (Yl.move rfl) rfl ?_ -- t13
    refine WL.y (Yl.field fo27_2 rfl) rfl ?_ -- t14
    refine WL.y (Yl.load on25 rfl (by repeat (first | exact Take1.head | apply Take1.tail)) a17) rfl ?_ -- t15
    refine WL.y (Yl.move rfl) rfl ?_ -- t16
    refine WL.y (Yl.index un25 sz31 rfl rfl (Reads.s hx) rfl (by omega)) rfl ?_ -- t17
    refine WL.y (Yl.loadV (j := k) (u := x) dvV dvAll rfl (Reads.s hx) rfl hxx) rfl ?_
    refine WL.callC (xs := [.tmp 18]) (cap := []) rfl rfl en26 (by repeat (first | exact TakeL.nil | (apply TakeL.cons; · repeat (first | exact Take1.head | apply Take1.tail)))) (fun w hw => rplace_any x hxo w hw.left.here) rfl ?_ -- t19 hailer/hailerref23.Place
    rintro ⟨⟩ -
    refine WL.y (Yl.index un68 sz4 rfl rfl (Reads.of RdOf.own (by repeat (first | exact Take1.head | apply Take1.tail))) rfl (by omega)) rfl ?_ -- t20
    refine WL.sto (Sto.elem (j := x.pl) (u := .bool true) sz4 rfl rfl (by repeat (first | exact Take1.head | apply Take1.tail)) rfl (by omega) (cs' := bv (sb (inPl (ms.take (k + 1))))) (by rw [bv_set, sb_set hpl, inPl_snoc, take_snoc _ _ _ hxx])) (fun _ h => nomatch h) ?_
    refine WL.nil ?_
    refine WC.region ?_
    refine WL.y (Yl.move rfl) rfl ?_ -- t11
    refine WL.y (Yl.add rfl rfl (IntWalk.i64_in _ (by omega))) rfl ?_ -- t12
    refine WL.y (Yl.assign rfl) rfl ?_ -- t4
    refine WL.nil ?_
    exact ⟨rfl, k + 1, by omega, by omega, (by repeat (first | exact Sub.nil | refine Sub.cons rfl ?_)), _, (by repeat (first | exact TakeL.nil | (apply TakeL.cons; · repeat (first | exact Take1.head | apply Take1.tail))))⟩
  · refine WC.exit ?_
    refine WC.seq ?_
    refine WC.region ?_
    refine WL.y (Yl.move rfl) rfl ?_ -- t21
    refine WL.y (Yl.assign rfl) rfl ?_ -- t2
    refine WL.nil ?_
    refine WC.ret ?_
    repeat (first | (with_reducible refine peelT ?_) | (with_reducible refine peelB ?_) | (with_reducible refine peelTX ?_) | (with_reducible refine peelBX ?_) | (with_reducible refine peelBN ?_) | (with_reducible refine peelBO rfl ?_))
    have hkn : k = ms.length := by omega
    subst hkn
    rw [List.take_length]
    exact ret1 (.inr rfl) Try.results37 rfl fun w' h => ⟨b5, trivial, rfl, h.sub (by repeat (first | exact TakeL.nil | (apply TakeL.cons; · repeat (first | exact Take1.head | apply Take1.tail))))⟩
theorem u8_in' (n : Int) (h : 0 ≤ n ∧ n < 256) : IntKind.u8.wrap n = n := by rw [IntKind.wrap_u8]; omega
theorem listF_succ {f : Nat → Bool} {k : Nat} : listF f (k + 1) = if f k = true then listF f k ++ [dvAt k] else listF f k := by
  unfold listF
  rw [List.range_succ, List.filter_append]
  cases h : f k <;> simp [h]
theorem rlist_any (f : Nat → Bool) (lv : Value) (w : World) (hx : RdS w (fpL []) lv 1 32 (bv (sb f))) (hw : OK w (fpL []) [] w) :
    Fn Try.prog 38 [lv] [] w IsSl (fun y => y) (fun y => [ownR y 31 2 (listF f 32).length (vcs Dv.val (listF f 32))]) := by
  refine enterF Try.func38 rfl Try.ntmps38 rfl hw ?_
  refine WC.seq ?_
  refine WC.region ?_
  refine WL.y (Yl.assign rfl) rfl ?_ -- t2
  refine WL.nil ?_
  refine WC.seq ?_
  refine WC.region ?_
  refine WL.y (Yl.assign rfl) rfl ?_ -- t3
  refine WL.view (fun w h => h.addNil 31 2) ?_
  refine WL.nil ?_
  refine WC.seq ?_
  refine WC.seq ?_
  refine WC.region ?_
  refine WL.y (Yl.assign rfl) rfl ?_ -- t4
  refine WL.nil ?_
  refine WC.block ?_
  refine WC.loop (α := Nat × Value) (fun k => [(0, lv), (3, k.2), (4, .int .i64 (k.1 : Int))]) (fun k => [ownR k.2 31 2 (listF f k.1).length (vcs Dv.val (listF f k.1))]) (fun k => k.1 ≤ 32 ∧ IsSl k.2) (fun k => 32 - k.1) (0, .slice none 0 0) ⟨Nat.zero_le _, _, _, _, rfl⟩ ⟨(by repeat (first | exact Sub.nil | refine Sub.cons rfl ?_)), _, (by repeat (first | exact TakeL.nil | (apply TakeL.cons; · repeat (first | exact Take1.head | apply Take1.tail))))⟩ ?_
  rintro ⟨k, y⟩ ⟨hk, hy⟩
  dsimp only at hk hy ⊢
  refine WC.seq ?_
  refine WC.seq ?_
  refine WC.region ?_
  refine WL.y (Yl.move rfl) rfl ?_ -- t5
  refine WL.y (Yl.lss rfl rfl) rfl ?_ -- t6
  refine WL.nil ?_
  refine WC.condD rfl (fun g6 => ?_) (fun g6 => ?_)
  · refine WC.skip ?_
    refine WC.seq ?_
    refine WC.block ?_
    refine WC.seq ?_
    refine WC.region ?_
    refine WL.y (Yl.move rfl) rfl ?_ -- t9
    refine WL.y (Yl.move rfl) rfl ?_ -- t10
    refine WL.y (Yl.index un68 sz4 rfl rfl (Reads.s hx) rfl (by omega)) rfl ?_ -- t11
    refine WL.y (Yl.loadE (j := k) on4 rfl (Reads.s hx) (bv_get (sb_get (by omega)))) rfl ?_
    refine WL.nil ?_
    refine WC.cond rfl (fun g12 => ?_) (fun g12 => ?_)
    · refine WC.region ?_
      refine WL.y (Yl.move rfl) rfl ?_ -- t13
      refine WL.y (Yl.move rfl) rfl ?_ -- t14
      refine WL.y (Yl.quo rfl rfl (by omega) (i64_quo (by omega) (by omega))) rfl ?_ -- t15
      refine WL.y (Yl.conv un3 un5 rfl (u8_in' _ (by omega))) rfl ?_ -- t16
      refine WL.say (t := 16) (v' := .int .u8 ((k / 4 : Nat) : Int)) rfl (by rw [Int.natCast_ediv]; rfl) ?_
      refine WL.y (Yl.move rfl) rfl ?_ -- t17
      refine WL.y (Yl.rem rfl rfl (by omega) (i64_rem (by omega))) rfl ?_ -- t18
      refine WL.y (Yl.conv un3 un5 rfl (u8_in' _ (by omega))) rfl ?_ -- t19
      refine WL.say (t := 19) (v' := .int .u8 ((k % 4 : Nat) : Int)) rfl (by rw [Int.natCast_emod]; rfl) ?_
      refine WL.y (Yl.build rfl (cs := (dvAt k).cells) (fun _ => by kernel_rfl)) rfl ?_ -- t20
      refine WL.to (To.buildSlice (vs := [.agg (dvAt k).cells.toArray]) un25 zs31 rfl rfl (by intro u hu; simp at hu; subst hu; rfl) (by decide) (by decide)) rfl ?_ -- t21
      intro b21
      rw [show flat [Value.agg (dvAt k).cells.toArray] = (dvAt k).cells from rfl]
      have hsucc : listF f (k + 1) = listF f k ++ [dvAt k] := by rw [listF_succ, if_pos g12]
      have hle := listF_len f k
      refine WL.to (To.append sl25 rfl rfl (by repeat (first | exact Take1.head | apply Take1.tail)) (Reads.of rdDv (by repeat (first | exact Take1.head | apply Take1.tail))) (Dv.ones _) (show (listF f k).length + 1 = (listF f (k + 1)).length by rw [hsucc, List.length_append]; rfl) (show vcs Dv.val (listF f k) ++ (dvAt k).cells = vcs Dv.val (listF f (k + 1)) by rw [hsucc, vcs_app, vcs_one]; simp [Dv.val, Value.cells]) (by have := listF_len f (k + 1); unfold maxLen; omega) (by have := listF_len f (k + 1); omega)) rfl ?_ -- t22
      rintro ⟨⟨ao22, c22⟩, hc22⟩
      dsimp only at hc22 ⊢
      refine WL.y (Yl.assign rfl) rfl ?_ -- t3
      refine WL.view (fun w h => h.addNil 31 2) ?_
      refine WL.nil ?_
      refine WC.region ?_
      refine WL.y (Yl.move rfl) rfl ?_ -- t7
      refine WL.y (Yl.add rfl rfl (IntWalk.i64_in _ (by omega))) rfl ?_ -- t8
      refine WL.y (Yl.assign rfl) rfl ?_ -- t4
      refine WL.nil ?_
      exact ⟨rfl, (k + 1, .slice ao22 (listF f (k + 1)).length c22), ⟨by dsimp only; omega, _, _, _, rfl⟩, by dsimp only; omega, (by repeat (first | exact Sub.nil | refine Sub.cons rfl ?_)), _, (by repeat (first | exact TakeL.nil | (apply TakeL.cons; · repeat (first | exact Take1.head | apply Take1.tail))))⟩
    · refine WC.skip ?_
      refine WC.region ?_
      refine WL.y (Yl.move rfl) rfl ?_ -- t7
      refine WL.y (Yl.add rfl rfl (IntWalk.i64_in _ (by omega))) rfl ?_ -- t8
      refine WL.y (Yl.assign rfl) rfl ?_ -- t4
      refine WL.nil ?_
      have hsucc : listF f (k + 1) = listF f k := by rw [listF_succ, if_neg (by rw [g12]; simp)]
      refine ⟨rfl, (k + 1, y), ⟨by dsimp only; omega, hy⟩, by dsimp only; omega, (by repeat (first | exact Sub.nil | refine Sub.cons rfl ?_)), ?_⟩
      dsimp only
      rw [hsucc]
      exact ⟨_, (by repeat (first | exact TakeL.nil | (apply TakeL.cons; · repeat (first | exact Take1.head | apply Take1.tail))))⟩
  · refine WC.exit ?_
    refine WC.seq ?_
    refine WC.region ?_
    refine WL.y (Yl.move rfl) rfl ?_ -- t23
    refine WL.y (Yl.assign rfl) rfl ?_ -- t2
    refine WL.nil ?_
    refine WC.ret ?_
    repeat (first | (with_reducible refine peelT ?_) | (with_reducible refine peelB ?_) | (with_reducible refine peelTX ?_) | (with_reducible refine peelBX ?_) | (with_reducible refine peelBN ?_) | (with_reducible refine peelBO rfl ?_))
    obtain rfl : k = 32 := by omega
    exact ret1 (.inr rfl) Try.results38 rfl fun w' h => ⟨y, hy, rfl, h.sub (by repeat (first | exact TakeL.nil | (apply TakeL.cons; · repeat (first | exact Take1.head | apply Take1.tail))))⟩
end Go.Proofs.Ytfdnnlcfolgegaa

namespace Go.Proofs.Ytfdnnlcfolgegaa
open Go Go.RowKit

set_option maxRecDepth 100000 in
theorem change_any (inn : Bool) (r : Rs) (hr : r.ok) (ms l : List Dv) (lv : Value) (ho : DOk ms) (hlo : DOk l) (hsz : ms.length + l.length ≤ 1099511627776) (w : World) (hx : RdS w (fpL []) r.v 2 ms.length (vcs Dv.val ms)) (hy : RdS w (fpL []) lv 2 l.length (vcs Dv.val l)) (hw : OK w (fpL []) [] w) : Fn Try.prog 10 [.agg r.cells.toArray, lv, .bool inn] [] w (OutOk inn r ms l) (fun y => .tuple #[.agg (outRs inn r ms l y).cells.toArray, .int .i64 (codeF inn r.e ms l)])
      (fun y => [ownR y 31 2 (outMs inn r.e ms l).length (vcs Dv.val (outMs inn r.e ms l))]) := by
  have hg := hr.len
  obtain ⟨ao, cap, hv, hcap, hml⟩ := hx.rd.form
  obtain ⟨bo, cap2, rfl, hcap2, hml2⟩ := hy.rd.form
  have a16 := Rs.at16 hg
  have a17 := Rs.at17 hg
  have rall : (r.cells.drop 0).take 18 = r.cells := by rw [List.drop_zero, List.take_of_length_le (by rw [Rs.len18 hg]; omega)]
  refine enterF Try.func10 rfl Try.ntmps10 rfl hw ?_
  refine WC.seq ?_
  refine WC.region ?_
  refine WL.to (To.box (cs := r.cells) rfl rfl) rfl ?_ -- t3
  intro b3
  refine WL.to (To.alloc (cs := Rs.zero.cells) zr27 rfl) rfl ?_ -- t6
  intro b6
  refine WL.y (Yl.assign rfl) rfl ?_ -- t7
  refine WL.nil ?_
  refine WC.seq ?_
  refine WC.region ?_
  refine WL.y (Yl.loadN ag27 rfl (by repeat (first | exact Take1.head | apply Take1.tail)) (by rw [Rs.len18 hg]; rfl) rall) rfl ?_ -- t12
  refine WL.callC (xs := [.tmp 12]) (cap := []) rfl rfl en18 (by repeat (first | exact TakeL.nil | (apply TakeL.cons; · repeat (first | exact Take1.head | apply Take1.tail)))) (fun w hw => rmay_any r ms hg (by omega) ho w (hw.srcS (A := []) hx) hw.left.here) rfl ?_ -- t13 hailer/hailerref23.May
  rintro ⟨⟩ -
  refine WL.y (Yl.assign rfl) rfl ?_ -- t8
  refine WL.nil ?_
  refine WC.seq ?_
  refine WC.seq ?_
  refine WC.region ?_
  refine WL.y (Yl.assign rfl) rfl ?_ -- t9
  refine WL.nil ?_
  refine WC.block ?_
  refine WC.loop (α := Nat) (fun k => [(1, .slice bo l.length cap2), (2, .bool inn), (3, .pointer (some ⟨b3, 0, none⟩)), (6, .pointer (some ⟨b6, 0, none⟩)), (8, .bool (mayF r.e ms && !(l.take k).any Dv.big)), (9, .int .i64 (k : Int))]) (fun _ => [blkR b3 27 r.cells, blkR b6 27 Rs.zero.cells]) (fun k => k ≤ l.length) (fun k => l.length - k) 0 (Nat.zero_le _) ⟨(by refine Sub.cons rfl (Sub.cons rfl (Sub.cons rfl (Sub.cons rfl (Sub.cons ?_ (Sub.cons rfl Sub.nil))))); show some (Value.bool (mayF r.e ms)) = _; simp), _, (by repeat (first | exact TakeL.nil | (apply TakeL.cons; · repeat (first | exact Take1.head | apply Take1.tail))))⟩ ?_
  rintro k hk
  refine WC.seq ?_
  refine WC.seq ?_
  refine WC.region ?_
  refine WL.y (Yl.move rfl) rfl ?_ -- t14
  refine WL.y (Yl.move rfl) rfl ?_ -- t15
  refine WL.y (Yl.len un25 rfl) rfl ?_ -- t16
  refine WL.y (Yl.lss rfl rfl) rfl ?_ -- t17
  refine WL.nil ?_
  refine WC.condD rfl (fun g17 => ?_) (fun g17 => ?_)
  · refine WC.skip ?_
    refine WC.seq ?_
    refine WC.block ?_
    obtain ⟨d, hdd⟩ : ∃ d, l[k]? = some d := ⟨_, List.getElem?_eq_getElem (by omega)⟩
    refine WC.region ?_
    refine WL.y (Yl.move rfl) rfl ?_ -- t20
    refine WL.y (Yl.move rfl) rfl ?_ -- t21
    refine WL.both (t := 21) rfl (fun g21 => ?_) (fun g21 => ?_)
    · refine WL.on rfl rfl ?_
      refine WL.y (Yl.move rfl) rfl ?_ -- t22
      refine WL.on rfl rfl ?_
      refine WL.y (Yl.move rfl) rfl ?_ -- t23
      refine WL.on rfl rfl ?_
      refine WL.y (Yl.index un25 sz31 rfl rfl (Reads.s hy) rfl (by omega)) rfl ?_ -- t24
      refine WL.on rfl rfl ?_
      refine WL.y (Yl.loadV (j := k) (u := d) dvV dvAll rfl (Reads.s hy) rfl hdd) rfl ?_
      refine WL.on rfl rfl ?_
      refine WL.callC (xs := [.tmp 25]) (cap := []) rfl rfl en36 (by repeat (first | exact TakeL.nil | (apply TakeL.cons; · repeat (first | exact Take1.head | apply Take1.tail)))) (fun w hw => rsmall_any d w hw.left.here) rfl ?_ -- t26 hailer/hailerref23.small
      rintro ⟨⟩ -
      refine WL.y (Yl.pickT rfl rfl) rfl ?_ -- t27
      refine WL.say (t := 27) (v' := .bool (mayF r.e ms && !(l.take (k + 1)).any Dv.big)) rfl (by rw [← take_snoc _ _ _ hdd, List.any_append]; simp only [Bool.and_eq_true, Bool.not_eq_true'] at g21; rw [g21.1, g21.2]; simp) ?_
      refine WL.y (Yl.assign rfl) rfl ?_ -- t8
      refine WL.nil ?_
      refine WC.region ?_
      refine WL.y (Yl.move rfl) rfl ?_ -- t18
      refine WL.y (Yl.add rfl rfl (IntWalk.i64_in _ (by omega))) rfl ?_ -- t19
      refine WL.y (Yl.assign rfl) rfl ?_ -- t9
      refine WL.nil ?_
      exact ⟨rfl, k + 1, by omega, by omega, (by repeat (first | exact Sub.nil | refine Sub.cons rfl ?_)), _, (by repeat (first | exact TakeL.nil | (apply TakeL.cons; · repeat (first | exact Take1.head | apply Take1.tail))))⟩
    · refine WL.off rfl rfl rfl rfl ?_ -- t22
      refine WL.off rfl rfl rfl rfl ?_ -- t23
      refine WL.off rfl rfl rfl rfl ?_ -- t24
      refine WL.off rfl rfl rfl rfl ?_ -- t25
      refine WL.off rfl rfl rfl rfl ?_ -- t26
      refine WL.y (Yl.pickF rfl rfl) rfl ?_ -- t27
      refine WL.say (t := 27) (v' := .bool (mayF r.e ms && !(l.take (k + 1)).any Dv.big)) rfl (by rw [← take_snoc _ _ _ hdd, List.any_append]; revert g21; cases mayF r.e ms <;> cases (l.take k).any Dv.big <;> simp) ?_
      refine WL.y (Yl.assign rfl) rfl ?_ -- t8
      refine WL.nil ?_
      refine WC.region ?_
      refine WL.y (Yl.move rfl) rfl ?_ -- t18
      refine WL.y (Yl.add rfl rfl (IntWalk.i64_in _ (by omega))) rfl ?_ -- t19
      refine WL.y (Yl.assign rfl) rfl ?_ -- t9
      refine WL.nil ?_
      exact ⟨rfl, k + 1, by omega, by omega, (by repeat (first | exact Sub.nil | refine Sub.cons rfl ?_)), _, (by repeat (first | exact TakeL.nil | (apply TakeL.cons; · repeat (first | exact Take1.head | apply Take1.tail))))⟩
  · refine WC.exit ?_
    refine WC.seq ?_
    refine WC.seq ?_
    refine WC.region ?_
    have hkn : k = l.length := by omega
    subst hkn
    rw [List.take_length]
    refine WL.y (Yl.move rfl) rfl ?_ -- t28
    refine WL.y (Yl.not rfl) rfl ?_ -- t29
    refine WL.nil ?_
    refine WC.cond rfl (fun g29 => ?_) (fun g29 => ?_)
    · refine WC.seq ?_
      refine WC.region ?_
      refine WL.y (Yl.build rfl (cs := Rs.zero.cells) (fun _ => by kernel_rfl)) rfl ?_ -- t30
      refine WL.sto (Sto.agg sz27 rfl rfl (by repeat (first | exact Take1.head | apply Take1.tail)) (Rs.one rfl) rfl (by rfl) (Rs.put (r := Rs.zero) (q := Rs.zero) rfl)) (fun _ h => nomatch h) ?_ -- st 1
      refine WL.y (Yl.assign rfl) rfl ?_ -- t7
      refine WL.nil ?_
      refine WC.ret ?_
      repeat (first | (with_reducible refine peelT ?_) | (with_reducible refine peelB ?_) | (with_reducible refine peelTX ?_) | (with_reducible refine peelBX ?_) | (with_reducible refine peelBN ?_) | (with_reducible refine peelBO rfl ?_))
      have hc : codeF inn r.e ms l = 2 := by unfold codeF; rw [g29]; rfl
      refine retC2 (cs := Rs.zero.cells) (.inr rfl) Try.results10 ag27 rfl rfl (by repeat (first | exact Take1.head | apply Take1.tail)) (Rs.len18 rfl) fun w' h => ⟨.slice none 0 0, ⟨⟨_, _, _, rfl⟩, by unfold outRs; rw [hc]; rfl⟩, by unfold outRs; rw [hc]; rfl, ?_⟩
      rw [show outMs inn r.e ms l = [] by unfold outMs; rw [hc]; rfl]
      exact (h.addNil 31 2).sub (by repeat (first | exact TakeL.nil | (apply TakeL.cons; · repeat (first | exact Take1.head | apply Take1.tail))))
    · refine WC.skip ?_
      refine WC.seq ?_
      simp only [Bool.not_eq_false', Bool.and_eq_true, Bool.not_eq_true'] at g29
      obtain ⟨hmay, hsm⟩ := g29
      have hm0 := (mayF_iff ho).1 hmay
      have hgood := hm0.2.2.2.2
      have hsmall := small_iff.1 hm0.2.2.2.1
      have hlsm := (small_iff.1 hsm).s
      have hcode : codeF inn r.e ms l = if (runF inn ms l).1 ≠ 0 then (runF inn ms l).1 else if r.e = 1099511627776 then 7 else 0 := by unfold codeF; rw [hmay, hsm]; rfl
      refine WC.region ?_
      refine WL.y (Yl.loadN ag27 rfl (by repeat (first | exact Take1.head | apply Take1.tail)) (by rw [Rs.len18 hg]; rfl) rall) rfl ?_ -- t31
      refine WL.callC (xs := [.tmp 31]) (cap := []) rfl rfl en37 (by repeat (first | exact TakeL.nil | (apply TakeL.cons; · repeat (first | exact Take1.head | apply Take1.tail)))) (fun w hw => rset_any r ms hg (by omega) ho hsmall w (hw.srcS (A := []) hx) hw.left.here) rfl ?_ -- t32 hailer/hailerref23.Set
      rintro b32 -
      refine WL.y (Yl.assign rfl) rfl ?_ -- t10
      refine WL.nil ?_
      refine WC.seq ?_
      refine WC.seq ?_
      refine WC.region ?_
      refine WL.y (Yl.assign rfl) rfl ?_ -- t11
      refine WL.nil ?_
      refine WC.block ?_
      refine WC.loop (α := Nat × List Dv) (fun k => [(1, .slice bo l.length cap2), (2, .bool inn), (3, .pointer (some ⟨b3, 0, none⟩)), (6, .pointer (some ⟨b6, 0, none⟩)), (10, .slice (some ⟨b32, 0, none⟩) 32 32), (11, .int .i64 (k.1 : Int))]) (fun k => [blkR b3 27 r.cells, blkR b6 27 Rs.zero.cells, ownR (.slice (some ⟨b32, 0, none⟩) 32 32) 4 1 32 (bv (sb (inPl k.2)))])
        (fun k => k.1 ≤ l.length ∧ Good k.2 ∧ Small k.2 ∧ runF inn ms l = runF inn k.2 (l.drop k.1)) (fun k => l.length - k.1) (0, ms) ⟨Nat.zero_le _, hgood, hsmall, rfl⟩ ⟨(by repeat (first | exact Sub.nil | refine Sub.cons rfl ?_)), _, (by repeat (first | exact TakeL.nil | (apply TakeL.cons; · repeat (first | exact Take1.head | apply Take1.tail))))⟩ ?_
      rintro ⟨k, cur⟩ ⟨hk, hgc, hsc, hrun⟩
      dsimp only at hk hgc hsc hrun ⊢
      refine WC.seq ?_
      refine WC.seq ?_
      refine WC.region ?_
      refine WL.y (Yl.move rfl) rfl ?_ -- t33
      refine WL.y (Yl.move rfl) rfl ?_ -- t34
      refine WL.y (Yl.len un25 rfl) rfl ?_ -- t35
      refine WL.y (Yl.lss rfl rfl) rfl ?_ -- t36
      refine WL.nil ?_
      refine WC.condD rfl (fun g36 => ?_) (fun g36 => ?_)
      · refine WC.skip ?_
        refine WC.seq ?_
        refine WC.block ?_
        refine WC.seq ?_
        refine WC.seq ?_
        obtain ⟨d, hdd⟩ : ∃ d, l[k]? = some d := ⟨_, List.getElem?_eq_getElem (by omega)⟩
        have hdo := hlo d (List.mem_of_getElem? hdd)
        have hdb := hlsm d (List.mem_of_getElem? hdd)
        have hpl := pl_lt hdo hdb
        have hin := inPl_in hgc.ok hsc hdo hdb
        have hdr : l.drop k = d :: l.drop (k + 1) := by
          obtain ⟨q1, q2⟩ := List.getElem?_eq_some_iff.1 hdd
          rw [List.drop_eq_getElem_cons q1, q2]
        have hstep : runF inn cur (l.drop k) = if errF inn cur d ≠ 0 then (errF inn cur d, []) else runF inn (nxtF inn cur d) (l.drop (k + 1)) := by rw [hdr]; rfl
        refine WC.region ?_
        refine WL.y (Yl.move rfl) rfl ?_ -- t39
        refine WL.y (Yl.move rfl) rfl ?_ -- t40
        refine WL.y (Yl.move rfl) rfl ?_ -- t41
        refine WL.y (Yl.index un25 sz31 rfl rfl (Reads.s hy) rfl (by omega)) rfl ?_ -- t42
        refine WL.y (Yl.loadV (j := k) (u := d) dvV dvAll rfl (Reads.s hy) rfl hdd) rfl ?_
        refine WL.callC (xs := [.tmp 43]) (cap := []) rfl rfl en26 (by repeat (first | exact TakeL.nil | (apply TakeL.cons; · repeat (first | exact Take1.head | apply Take1.tail)))) (fun w hw => rplace_any d hdo w hw.left.here) rfl ?_ -- t44 hailer/hailerref23.Place
        rintro ⟨⟩ -
        refine WL.y (Yl.index un68 sz4 rfl rfl (Reads.of RdOf.own (by repeat (first | exact Take1.head | apply Take1.tail))) rfl (by omega)) rfl ?_ -- t45
        refine WL.y (Yl.loadE (j := d.pl) on4 rfl (Reads.of RdOf.own (by repeat (first | exact Take1.head | apply Take1.tail))) (bv_get (sb_get hpl))) rfl ?_
        refine WL.y (Yl.move rfl) rfl ?_ -- t47
        refine WL.y (Yl.bEq un4 rfl rfl) rfl ?_ -- t48
        refine WL.say (t := 48) (v' := .bool (inF cur d == inn)) rfl (by rw [hin]) ?_
        refine WL.nil ?_
        refine WC.cond rfl (fun g48 => ?_) (fun g48 => ?_)
        · refine WC.seq ?_
          refine WC.seq ?_
          refine WC.region ?_
          refine WL.y (Yl.move rfl) rfl ?_ -- t49
          refine WL.nil ?_
          refine WC.cond rfl (fun g49 => ?_) (fun g49 => ?_)
          · refine WC.seq ?_
            refine WC.region ?_
            refine WL.y (Yl.build rfl (cs := Rs.zero.cells) (fun _ => by kernel_rfl)) rfl ?_ -- t50
            refine WL.sto (Sto.agg sz27 rfl rfl (by repeat (first | exact Take1.head | apply Take1.tail)) (Rs.one rfl) rfl (by rfl) (Rs.put (r := Rs.zero) (q := Rs.zero) rfl)) (fun _ h => nomatch h) ?_ -- st 2
            refine WL.y (Yl.assign rfl) rfl ?_ -- t7
            refine WL.nil ?_
            refine WC.ret ?_
            repeat (first | (with_reducible refine peelT ?_) | (with_reducible refine peelB ?_) | (with_reducible refine peelTX ?_) | (with_reducible refine peelBX ?_) | (with_reducible refine peelBN ?_) | (with_reducible refine peelBO rfl ?_))
            subst g49
            have hin2 : inF cur d = true := by simpa using g48
            have he : errF true cur d = 6 := by unfold errF; rw [hin2]; rfl
            have hc : codeF true r.e ms l = 6 := by rw [hcode, hrun, hstep, he]; simp
            refine retC2 (cs := Rs.zero.cells) (.inr rfl) Try.results10 ag27 rfl rfl (by repeat (first | exact Take1.head | apply Take1.tail)) (Rs.len18 rfl) fun w' h => ⟨.slice none 0 0, ⟨⟨_, _, _, rfl⟩, by unfold outRs; rw [hc]; rfl⟩, by unfold outRs; rw [hc]; rfl, ?_⟩
            rw [show outMs true r.e ms l = [] by unfold outMs; rw [hc]; rfl]
            exact (h.addNil 31 2).sub (by repeat (first | exact TakeL.nil | (apply TakeL.cons; · repeat (first | exact Take1.head | apply Take1.tail))))
          · refine WC.skip ?_
            refine WC.seq ?_
            refine WC.region ?_
            refine WL.y (Yl.build rfl (cs := Rs.zero.cells) (fun _ => by kernel_rfl)) rfl ?_ -- t51
            refine WL.sto (Sto.agg sz27 rfl rfl (by repeat (first | exact Take1.head | apply Take1.tail)) (Rs.one rfl) rfl (by rfl) (Rs.put (r := Rs.zero) (q := Rs.zero) rfl)) (fun _ h => nomatch h) ?_ -- st 3
            refine WL.y (Yl.assign rfl) rfl ?_ -- t7
            refine WL.nil ?_
            refine WC.ret ?_
            repeat (first | (with_reducible refine peelT ?_) | (with_reducible refine peelB ?_) | (with_reducible refine peelTX ?_) | (with_reducible refine peelBX ?_) | (with_reducible refine peelBN ?_) | (with_reducible refine peelBO rfl ?_))
            subst g49
            have hin2 : inF cur d = false := by simpa using g48
            have he : errF false cur d = 4 := by unfold errF; rw [hin2]; rfl
            have hc : codeF false r.e ms l = 4 := by rw [hcode, hrun, hstep, he]; simp
            refine retC2 (cs := Rs.zero.cells) (.inr rfl) Try.results10 ag27 rfl rfl (by repeat (first | exact Take1.head | apply Take1.tail)) (Rs.len18 rfl) fun w' h => ⟨.slice none 0 0, ⟨⟨_, _, _, rfl⟩, by unfold outRs; rw [hc]; rfl⟩, by unfold outRs; rw [hc]; rfl, ?_⟩
            rw [show outMs false r.e ms l = [] by unfold outMs; rw [hc]; rfl]
            exact (h.addNil 31 2).sub (by repeat (first | exact TakeL.nil | (apply TakeL.cons; · repeat (first | exact Take1.head | apply Take1.tail))))
        · refine WC.skip ?_
          have hne : inF cur d ≠ inn := by simpa using g48
          have he : errF inn cur d = 0 := by unfold errF; rw [if_neg hne]
          refine WC.region ?_
          refine WL.y (Yl.move rfl) rfl ?_ -- t52
          refine WL.y (Yl.move rfl) rfl ?_ -- t53
          refine WL.y (Yl.move rfl) rfl ?_ -- t54
          refine WL.y (Yl.index un25 sz31 rfl rfl (Reads.s hy) rfl (by omega)) rfl ?_ -- t55
          refine WL.y (Yl.loadV (j := k) (u := d) dvV dvAll rfl (Reads.s hy) rfl hdd) rfl ?_
          refine WL.callC (xs := [.tmp 56]) (cap := []) rfl rfl en26 (by repeat (first | exact TakeL.nil | (apply TakeL.cons; · repeat (first | exact Take1.head | apply Take1.tail)))) (fun w hw => rplace_any d hdo w hw.left.here) rfl ?_ -- t57 hailer/hailerref23.Place
          rintro ⟨⟩ -
          refine WL.y (Yl.move rfl) rfl ?_ -- t58
          refine WL.y (Yl.index un68 sz4 rfl rfl (Reads.of RdOf.own (by repeat (first | exact Take1.head | apply Take1.tail))) rfl (by omega)) rfl ?_ -- t59
          refine WL.sto (Sto.elem (j := d.pl) (u := .bool inn) sz4 rfl rfl (by repeat (first | exact Take1.head | apply Take1.tail)) rfl (by omega) (cs' := bv (sb (inPl (nxtF inn cur d)))) (by rw [bv_set, sb_set hpl, set_step hgc hsc hdo hdb hne])) (fun _ h => nomatch h) ?_
          refine WL.nil ?_
          refine WC.region ?_
          refine WL.y (Yl.move rfl) rfl ?_ -- t37
          refine WL.y (Yl.add rfl rfl (IntWalk.i64_in _ (by omega))) rfl ?_ -- t38
          refine WL.y (Yl.assign rfl) rfl ?_ -- t11
          refine WL.nil ?_
          exact ⟨rfl, (k + 1, nxtF inn cur d), ⟨by dsimp only; omega, nxt_good hgc hdo, nxt_small hgc hsc hdb, by rw [hrun, hstep, if_neg (by rw [he]; simp)]⟩, by dsimp only; omega, (by repeat (first | exact Sub.nil | refine Sub.cons rfl ?_)), _, (by repeat (first | exact TakeL.nil | (apply TakeL.cons; · repeat (first | exact Take1.head | apply Take1.tail))))⟩
      · refine WC.exit ?_
        refine WC.seq ?_
        refine WC.seq ?_
        have hkn : k = l.length := by omega
        have hrun2 : runF inn ms l = (0, cur) := by rw [hrun, hkn, List.drop_length]; rfl
        rw [hrun2] at hcode
        have hls := list_set hgc hsc
        refine WC.region ?_
        refine WL.y (Yl.field fo27_1 rfl) rfl ?_ -- t60
        refine WL.y (Yl.load on24 rfl (by repeat (first | exact Take1.head | apply Take1.tail)) a16) rfl ?_ -- t61
        refine WL.y (Yl.eql rfl rfl) rfl ?_ -- t62
        refine WL.nil ?_
        refine WC.condD rfl (fun g62 => ?_) (fun g62 => ?_)
        · refine WC.seq ?_
          refine WC.region ?_
          refine WL.y (Yl.build rfl (cs := Rs.zero.cells) (fun _ => by kernel_rfl)) rfl ?_ -- t63
          refine WL.sto (Sto.agg sz27 rfl rfl (by repeat (first | exact Take1.head | apply Take1.tail)) (Rs.one rfl) rfl (by rfl) (Rs.put (r := Rs.zero) (q := Rs.zero) rfl)) (fun _ h => nomatch h) ?_ -- st 5
          refine WL.y (Yl.assign rfl) rfl ?_ -- t7
          refine WL.nil ?_
          refine WC.ret ?_
          repeat (first | (with_reducible refine peelT ?_) | (with_reducible refine peelB ?_) | (with_reducible refine peelTX ?_) | (with_reducible refine peelBX ?_) | (with_reducible refine peelBN ?_) | (with_reducible refine peelBO rfl ?_))
          have hc : codeF inn r.e ms l = 7 := by rw [hcode, if_neg (by simp), if_pos g62]
          refine retC2 (cs := Rs.zero.cells) (.inr rfl) Try.results10 ag27 rfl rfl (by repeat (first | exact Take1.head | apply Take1.tail)) (Rs.len18 rfl) fun w' h => ⟨.slice none 0 0, ⟨⟨_, _, _, rfl⟩, by unfold outRs; rw [hc]; rfl⟩, by unfold outRs; rw [hc]; rfl, ?_⟩
          rw [show outMs inn r.e ms l = [] by unfold outMs; rw [hc]; rfl]
          exact (h.addNil 31 2).sub (by repeat (first | exact TakeL.nil | (apply TakeL.cons; · repeat (first | exact Take1.head | apply Take1.tail))))
        · refine WC.skip ?_
          refine WC.seq ?_
          refine WC.drawAny (Hs := [blkR b3 27 r.cells]) mixed (by kernel_rfl) ⟨_, (by repeat (first | exact TakeL.nil | (apply TakeL.cons; · repeat (first | exact Take1.head | apply Take1.tail))))⟩ ?_
          refine WD.take 0 rfl (by kernel_rfl) (by kernel_rfl) (by kernel_rfl) rfl rfl (Yl.field fo27_0 rfl) rfl ?_ -- t64
          refine WD.take 1 rfl (by kernel_rfl) (by kernel_rfl) (by kernel_rfl) rfl rfl (Yl.loadN ag23 rfl (by repeat (first | exact Take1.head | apply Take1.tail)) (by rw [Rs.len18 hg]; rfl) (Rs.grp hg)) rfl ?_ -- t65
          refine WD.take 2 rfl (by kernel_rfl) (by kernel_rfl) (by kernel_rfl) rfl rfl (Yl.field fo27_1 rfl) rfl ?_ -- t66
          refine WD.take 3 rfl (by kernel_rfl) (by kernel_rfl) (by kernel_rfl) rfl rfl (Yl.load on24 rfl (by repeat (first | exact Take1.head | apply Take1.tail)) a16) rfl ?_ -- t67
          refine WD.take 4 rfl (by kernel_rfl) (by kernel_rfl) (by kernel_rfl) rfl rfl (Yl.add rfl rfl rfl) rfl ?_ -- t68
          refine WD.say (t := 68) (v' := .int .u64 (r.e + 1)) rfl (by rw [u64_in _ (by omega)]) ?_
          refine WD.take 5 rfl (by kernel_rfl) (by kernel_rfl) (by kernel_rfl) rfl rfl (Yl.move rfl) rfl ?_ -- t69
          refine WD.one 6 (by kernel_rfl) ?_
          refine WO.callC (xs := [.tmp 69]) (cap := []) rfl .no rfl rfl en38 (by repeat (first | exact TakeL.nil | (apply TakeL.cons; · repeat (first | exact Take1.head | apply Take1.tail)))) (fun w hw => rlist_any (inPl cur) _ w (hw.src (A := []) RdOf.own (by repeat (first | exact Take1.head | apply Take1.tail))) hw.left.here) rfl (fun _ => ⟨_, (by repeat (first | exact TakeL.nil | (apply TakeL.cons; · repeat (first | exact Take1.head | apply Take1.tail))))⟩) ?_ -- t70 hailer/hailerref23.List
          intro y70 hy70
          refine WD.take 7 rfl (by kernel_rfl) (by kernel_rfl) (by kernel_rfl) rfl rfl (Yl.build rfl (cs := (Rs.mk r.g (r.e + 1) y70).cells) (build_ro hg _ _ hy70)) rfl ?_ -- t71
          refine WD.one 8 (by kernel_rfl) ?_
          refine WO.sto rfl rfl .no (Sto.agg sz27 rfl rfl (by repeat (first | exact Take1.head | apply Take1.tail)) (Rs.one (sliceOne hy70)) (Rs.len18 hg) (by rfl) (Rs.put (r := Rs.zero) rfl)) ⟨_, (by repeat (first | exact TakeL.nil | (apply TakeL.cons; · repeat (first | exact Take1.head | apply Take1.tail))))⟩ ?_ -- st 6
          refine WD.take 9 rfl (by kernel_rfl) (by kernel_rfl) (by kernel_rfl) rfl rfl (Yl.assign rfl) rfl ?_ -- t7
          refine WD.done (by kernel_rfl) ?_
          refine WC.ret ?_
          repeat (first | (with_reducible refine peelT ?_) | (with_reducible refine peelB ?_) | (with_reducible refine peelTX ?_) | (with_reducible refine peelBX ?_) | (with_reducible refine peelBN ?_) | (with_reducible refine peelBO rfl ?_))
          have hc : codeF inn r.e ms l = 0 := by rw [hcode, if_neg (by simp), if_neg g62]
          refine retC2 (cs := (Rs.mk r.g (r.e + 1) y70).cells) (.inr rfl) Try.results10 ag27 rfl rfl (by repeat (first | exact Take1.head | apply Take1.tail)) (Rs.len18 hg) fun w' h => ⟨y70, ⟨hy70, by unfold outRs; rw [hc]; rfl⟩, by unfold outRs; rw [hc]; rfl, ?_⟩
          rw [show outMs inn r.e ms l = listF (inPl cur) 32 by unfold outMs; rw [hc, hrun2, hls]; rfl]
          exact h.sub (by repeat (first | exact TakeL.nil | (apply TakeL.cons; · repeat (first | exact Take1.head | apply Take1.tail))))

theorem flatC : Flat Try.prog 23 (List.replicate 16 (some .u8)) := Flat.mk' 5 (by decide) (by kernel_rfl) (by kernel_rfl)
theorem ints_eqV {k : IntKind} {xs ys : List Int} : eqV (ints k xs) (ints k ys) = decide (xs = ys) := by
  by_cases h : xs = ys
  · subst h; rw [eqV_self]; simp
  · rw [eqV_ne, decide_eq_false h]
    intro e
    apply h
    have hinj : ∀ {a b : List Int}, ints k a = ints k b → a = b := by
      intro a
      induction a with
      | nil => intro b hb; cases b with
        | nil => rfl
        | cons _ _ => simp [ints] at hb
      | cons x a ih => intro b hb; cases b with
        | nil => simp [ints] at hb
        | cons y b =>
          simp only [ints, List.map_cons, List.cons.injEq, Value.int.injEq, true_and] at hb
          rw [hb.1, ih hb.2]
    exact hinj e
set_option maxRecDepth 100000 in
theorem same_any (r q : Rs) (xs ys : List Dv) (hr : r.ok) (hq : q.ok) (hl : xs.length ≤ 1099511627776) (h1 : DOk xs) (h2 : DOk ys) (w : World) (hx : RdS w (fpL []) r.v 2 xs.length (vcs Dv.val xs)) (hy : RdS w (fpL []) q.v 2 ys.length (vcs Dv.val ys)) (hw : OK w (fpL []) [] w) :
    Fn Try.prog 11 [.agg r.cells.toArray, .agg q.cells.toArray] [] w (fun _ : Unit => True) (fun _ => .bool (decide (r.g = q.g) && decide (r.e = q.e) && decide (xs = ys))) (fun _ => []) := by
  have hg := hr.len
  have hg2 := hq.len
  obtain ⟨ao, cap, hv, hcap, hml⟩ := hx.rd.form
  obtain ⟨bo, cap2, hv2, hcap2, hml2⟩ := hy.rd.form
  have a16 := Rs.at16 hg
  have a17 := Rs.at17 hg
  have b16 := Rs.at16 hg2
  have b17 := Rs.at17 hg2
  rw [hv] at a17 hx
  rw [hv2] at b17 hy
  refine enterF Try.func11 rfl Try.ntmps11 rfl hw ?_
  refine WC.seq ?_
  refine WC.region ?_
  refine WL.to (To.box (cs := r.cells) rfl rfl) rfl ?_ -- t2
  intro b2
  refine WL.to (To.box (cs := q.cells) rfl rfl) rfl ?_ -- t3
  intro b3
  refine WL.y (Yl.assign rfl) rfl ?_ -- t4
  refine WL.nil ?_
  refine WC.midK [(5, .bool (decide (r.g = q.g) && decide (r.e = q.e) && decide (xs.length = ys.length)))] [blkR b2 27 r.cells, blkR b3 27 q.cells] ?_ ?_
  · refine WC.region ?_
    refine WL.y (Yl.field fo27_0 rfl) rfl ?_ -- t7
    refine WL.y (Yl.loadN ag23 rfl (by repeat (first | exact Take1.head | apply Take1.tail)) (by rw [Rs.len18 hg]; rfl) (Rs.grp hg)) rfl ?_ -- t8
    refine WL.y (Yl.field fo27_0 rfl) rfl ?_ -- t9
    refine WL.y (Yl.loadN ag23 rfl (by repeat (first | exact Take1.head | apply Take1.tail)) (by rw [Rs.len18 hg2]; rfl) (Rs.grp hg2)) rfl ?_ -- t10
    refine WL.y (Yl.eqA (xs := ints .u8 r.g) (ys := ints .u8 q.g) flatC rfl rfl (fitsB hg hr.b) (fitsB hg2 hq.b)) rfl ?_
    refine WL.say (t := 11) (v' := .bool (decide (r.g = q.g))) rfl (by rw [ints_eqV]) ?_
    refine WL.y (Yl.move rfl) rfl ?_ -- t12
    refine WL.both (t := 12) rfl (fun g12 => ?_) (fun g12 => ?_)
    · refine WL.on rfl rfl ?_
      refine WL.y (Yl.field fo27_1 rfl) rfl ?_ -- t13
      refine WL.on rfl rfl ?_
      refine WL.y (Yl.load on24 rfl (by repeat (first | exact Take1.head | apply Take1.tail)) a16) rfl ?_ -- t14
      refine WL.on rfl rfl ?_
      refine WL.y (Yl.field fo27_1 rfl) rfl ?_ -- t15
      refine WL.on rfl rfl ?_
      refine WL.y (Yl.load on24 rfl (by repeat (first | exact Take1.head | apply Take1.tail)) b16) rfl ?_ -- t16
      refine WL.on rfl rfl ?_
      refine WL.y (Yl.eql rfl rfl) rfl ?_ -- t17
      refine WL.y (Yl.pickT rfl rfl) rfl ?_ -- t18
      refine WL.y (Yl.move rfl) rfl ?_ -- t19
      refine WL.both (t := 19) rfl (fun g19 => ?_) (fun g19 => ?_)
      · refine WL.on rfl rfl ?_
        refine WL.y (Yl.field fo27_2 rfl) rfl ?_ -- t20
        refine WL.on rfl rfl ?_
        refine WL.y (Yl.load on25 rfl (by repeat (first | exact Take1.head | apply Take1.tail)) a17) rfl ?_ -- t21
        refine WL.on rfl rfl ?_
        refine WL.y (Yl.len un25 rfl) rfl ?_ -- t22
        refine WL.on rfl rfl ?_
        refine WL.y (Yl.field fo27_2 rfl) rfl ?_ -- t23
        refine WL.on rfl rfl ?_
        refine WL.y (Yl.load on25 rfl (by repeat (first | exact Take1.head | apply Take1.tail)) b17) rfl ?_ -- t24
        refine WL.on rfl rfl ?_
        refine WL.y (Yl.len un25 rfl) rfl ?_ -- t25
        refine WL.on rfl rfl ?_
        refine WL.y (Yl.eql rfl rfl) rfl ?_ -- t26
        refine WL.y (Yl.pickT rfl rfl) rfl ?_ -- t27
        refine WL.say (t := 27) (v' := .bool (decide (r.g = q.g) && decide (r.e = q.e) && decide (xs.length = ys.length))) rfl (by rw [g12, g19]; simp; omega) ?_
        refine WL.y (Yl.assign rfl) rfl ?_ -- t5
        refine WL.nil ?_
        exact ⟨rfl, (by repeat (first | exact Sub.nil | refine Sub.cons rfl ?_)), (by repeat (first | exact Sub.nil | refine Sub.cons rfl ?_)), _, (by repeat (first | exact TakeL.nil | (apply TakeL.cons; · repeat (first | exact Take1.head | apply Take1.tail))))⟩
      · refine WL.off rfl rfl rfl rfl ?_ -- t20
        refine WL.off rfl rfl rfl rfl ?_ -- t21
        refine WL.off rfl rfl rfl rfl ?_ -- t22
        refine WL.off rfl rfl rfl rfl ?_ -- t23
        refine WL.off rfl rfl rfl rfl ?_ -- t24
        refine WL.off rfl rfl rfl rfl ?_ -- t25
        refine WL.off rfl rfl rfl rfl ?_ -- t26
        refine WL.y (Yl.pickF rfl rfl) rfl ?_ -- t27
        refine WL.say (t := 27) (v' := .bool (decide (r.g = q.g) && decide (r.e = q.e) && decide (xs.length = ys.length))) rfl (by rw [g19]; simp) ?_
        refine WL.y (Yl.assign rfl) rfl ?_ -- t5
        refine WL.nil ?_
        exact ⟨rfl, (by repeat (first | exact Sub.nil | refine Sub.cons rfl ?_)), (by repeat (first | exact Sub.nil | refine Sub.cons rfl ?_)), _, (by repeat (first | exact TakeL.nil | (apply TakeL.cons; · repeat (first | exact Take1.head | apply Take1.tail))))⟩
    · refine WL.off rfl rfl rfl rfl ?_ -- t13
      refine WL.off rfl rfl rfl rfl ?_ -- t14
      refine WL.off rfl rfl rfl rfl ?_ -- t15
      refine WL.off rfl rfl rfl rfl ?_ -- t16
      refine WL.off rfl rfl rfl rfl ?_ -- t17
      refine WL.y (Yl.pickF rfl rfl) rfl ?_ -- t18
      refine WL.y (Yl.move rfl) rfl ?_ -- t19
      refine WL.off rfl rfl rfl rfl ?_ -- t20
      refine WL.off rfl rfl rfl rfl ?_ -- t21
      refine WL.off rfl rfl rfl rfl ?_ -- t22
      refine WL.off rfl rfl rfl rfl ?_ -- t23
      refine WL.off rfl rfl rfl rfl ?_ -- t24
      refine WL.off rfl rfl rfl rfl ?_ -- t25
      refine WL.off rfl rfl rfl rfl ?_ -- t26
      refine WL.y (Yl.pickF rfl rfl) rfl ?_ -- t27
      refine WL.say (t := 27) (v' := .bool (decide (r.g = q.g) && decide (r.e = q.e) && decide (xs.length = ys.length))) rfl (by rw [g12]; simp) ?_
      refine WL.y (Yl.assign rfl) rfl ?_ -- t5
      refine WL.nil ?_
      exact ⟨rfl, (by repeat (first | exact Sub.nil | refine Sub.cons rfl ?_)), (by repeat (first | exact Sub.nil | refine Sub.cons rfl ?_)), _, (by repeat (first | exact TakeL.nil | (apply TakeL.cons; · repeat (first | exact Take1.head | apply Take1.tail))))⟩
  · refine WC.seq ?_
    refine WC.seq ?_
    refine WC.region ?_
    refine WL.y (Yl.assign rfl) rfl ?_ -- t6
    refine WL.nil ?_
    refine WC.block ?_
    refine WC.loop (α := Nat × Bool) (fun k => [(2, .pointer (some ⟨b2, 0, none⟩)), (3, .pointer (some ⟨b3, 0, none⟩)), (5, .bool k.2), (6, .int .i64 (k.1 : Int))]) (fun k => [blkR b2 27 r.cells, blkR b3 27 q.cells]) (fun k => k.1 ≤ xs.length ∧ (k.2 = true → xs.length = ys.length) ∧ k.2 = (decide (r.g = q.g) && decide (r.e = q.e) && decide (xs.length = ys.length) && decide (xs.take k.1 = ys.take k.1))) (fun k => xs.length - k.1) (0, decide (r.g = q.g) && decide (r.e = q.e) && decide (xs.length = ys.length)) ⟨Nat.zero_le _, fun h => of_decide_eq_true (Bool.and_eq_true_iff.1 h).2, by simp⟩ ⟨(by repeat (first | exact Sub.nil | refine Sub.cons rfl ?_)), _, (by repeat (first | exact TakeL.nil | (apply TakeL.cons; · repeat (first | exact Take1.head | apply Take1.tail))))⟩ ?_
    rintro ⟨k, ok⟩ ⟨hk, hlen, hok⟩
    dsimp only at hk hlen hok ⊢
    refine WC.seq ?_
    refine WC.seq ?_
    refine WC.region ?_
    refine WL.y (Yl.move rfl) rfl ?_ -- t28
    refine WL.y (Yl.field fo27_2 rfl) rfl ?_ -- t29
    refine WL.y (Yl.load on25 rfl (by repeat (first | exact Take1.head | apply Take1.tail)) a17) rfl ?_ -- t30
    refine WL.y (Yl.len un25 rfl) rfl ?_ -- t31
    refine WL.y (Yl.lss rfl rfl) rfl ?_ -- t32
    refine WL.y (Yl.move rfl) rfl ?_ -- t33
    refine WL.both (t := 33) rfl (fun g33 => ?_) (fun g33 => ?_)
    · refine WL.on rfl rfl ?_
      refine WL.y (Yl.move rfl) rfl ?_ -- t34
      refine WL.y (Yl.pickT rfl rfl) rfl ?_ -- t35
      refine WL.nil ?_
      refine WC.cond rfl (fun g35 => ?_) (fun g35 => ?_)
      · refine WC.skip ?_
        refine WC.seq ?_
        refine WC.block ?_
        have hll := hlen g35
        have hlt : k < xs.length := by have := of_decide_eq_true g33; omega
        obtain ⟨x, hxx⟩ : ∃ x, xs[k]? = some x := ⟨_, List.getElem?_eq_getElem (by omega)⟩
        obtain ⟨y, hyy⟩ : ∃ y, ys[k]? = some y := ⟨_, List.getElem?_eq_getElem (by omega)⟩
        refine WC.drawTail 11 mixed (by kernel_rfl) ?_
        refine WH.y (Yl.field fo27_2 rfl) rfl ?_ -- t38
        refine WH.y (Yl.load on25 rfl (by repeat (first | exact Take1.head | apply Take1.tail)) a17) rfl ?_ -- t39
        refine WH.y (Yl.move rfl) rfl ?_ -- t40
        refine WH.y (Yl.index un25 sz31 rfl rfl (Reads.s hx) rfl (by omega)) rfl ?_ -- t41
        refine WH.y (Yl.loadV (j := k) (u := x) dvV dvAll rfl (Reads.s hx) rfl hxx) rfl ?_
        refine WH.y (Yl.field fo27_2 rfl) rfl ?_ -- t43
        refine WH.y (Yl.load on25 rfl (by repeat (first | exact Take1.head | apply Take1.tail)) b17) rfl ?_ -- t44
        refine WH.y (Yl.move rfl) rfl ?_ -- t45
        refine WH.y (Yl.index un25 sz31 rfl rfl (Reads.s hy) rfl (by omega)) rfl ?_ -- t46
        refine WH.y (Yl.loadV (j := k) (u := y) dvV dvAll rfl (Reads.s hy) rfl hyy) rfl ?_
        refine WH.y (Yl.eqA (xs := x.cells) (ys := y.cells) flatD rfl rfl (Dv.fits (h1 x (List.mem_of_getElem? hxx))) (Dv.fits (h2 y (List.mem_of_getElem? hyy)))) rfl ?_
        refine WH.say (t := 48) (v' := .bool (decide (x = y))) rfl (by rw [Dv.eqV]) ?_
        refine WH.nil ?_
        refine WP.y (Yl.assign rfl) rfl ?_ -- t5
        refine WP.nil ?_
        refine WC.region ?_
        refine WL.y (Yl.move rfl) rfl ?_ -- t36
        refine WL.y (Yl.add rfl rfl (IntWalk.i64_in _ (by omega))) rfl ?_ -- t37
        refine WL.y (Yl.assign rfl) rfl ?_ -- t6
        refine WL.nil ?_
        exact ⟨rfl, (k + 1, decide (x = y)), ⟨by dsimp only; omega, fun _ => hll, by
          rw [g35] at hok
          simp only [Bool.true_eq, Bool.and_eq_true, decide_eq_true_eq] at hok
          dsimp only
          rw [decide_eq_true hok.1.1.1, decide_eq_true hok.1.1.2, decide_eq_true hok.1.2, ← take_snoc _ _ _ hxx, ← take_snoc _ _ _ hyy, hok.2]
          simp⟩, by dsimp only; omega, (by repeat (first | exact Sub.nil | refine Sub.cons rfl ?_)), _, (by repeat (first | exact TakeL.nil | (apply TakeL.cons; · repeat (first | exact Take1.head | apply Take1.tail))))⟩
      · refine WC.exit ?_
        refine WC.seq ?_
        refine WC.region ?_
        refine WL.y (Yl.move rfl) rfl ?_ -- t49
        refine WL.y (Yl.assign rfl) rfl ?_ -- t4
        refine WL.nil ?_
        refine WC.ret ?_
        repeat (first | (with_reducible refine peelT ?_) | (with_reducible refine peelB ?_) | (with_reducible refine peelTX ?_) | (with_reducible refine peelBX ?_) | (with_reducible refine peelBN ?_) | (with_reducible refine peelBO rfl ?_))
        have hfin : ok = (decide (r.g = q.g) && decide (r.e = q.e) && decide (xs = ys)) := by
          cases hk0 : ok with
          | false =>
            rw [hk0] at hok
            by_cases e : xs = ys
            · subst e; simpa using hok
            · simp [e]
          | true =>
            have hll := hlen hk0
            have hkn : k = xs.length := by
              first
              | exact absurd (hk0.symm.trans g35) (by decide)
              | (have := of_decide_eq_false g33; omega)
            rw [hk0, hkn] at hok
            simp only [Bool.true_eq, Bool.and_eq_true, decide_eq_true_eq] at hok
            have e : xs = ys := by
              have := hok.2
              rwa [List.take_length, hll, List.take_length] at this
            rw [decide_eq_true hok.1.1.1, decide_eq_true hok.1.1.2, decide_eq_true e]; rfl
        exact ret1 (.inr rfl) Try.results11 rfl fun w' h => ⟨(), trivial, by rw [← hfin], h.sub (by repeat (first | exact TakeL.nil | (apply TakeL.cons; · repeat (first | exact Take1.head | apply Take1.tail))))⟩
    · refine WL.off rfl rfl rfl rfl ?_ -- t34
      refine WL.y (Yl.pickF rfl rfl) rfl ?_ -- t35
      refine WL.nil ?_
      refine WC.condF rfl (by first | rfl | (simp; done) | (simp; omega)) ?_
      refine WC.exit ?_
      refine WC.seq ?_
      refine WC.region ?_
      refine WL.y (Yl.move rfl) rfl ?_ -- t49
      refine WL.y (Yl.assign rfl) rfl ?_ -- t4
      refine WL.nil ?_
      refine WC.ret ?_
      repeat (first | (with_reducible refine peelT ?_) | (with_reducible refine peelB ?_) | (with_reducible refine peelTX ?_) | (with_reducible refine peelBX ?_) | (with_reducible refine peelBN ?_) | (with_reducible refine peelBO rfl ?_))
      have hfin : ok = (decide (r.g = q.g) && decide (r.e = q.e) && decide (xs = ys)) := by
        cases hk0 : ok with
        | false =>
          rw [hk0] at hok
          by_cases e : xs = ys
          · subst e; simpa using hok
          · simp [e]
        | true =>
          have hll := hlen hk0
          have hkn : k = xs.length := by
            first
            | exact absurd (hk0.symm.trans g35) (by decide)
            | (have := of_decide_eq_false g33; omega)
          rw [hk0, hkn] at hok
          simp only [Bool.true_eq, Bool.and_eq_true, decide_eq_true_eq] at hok
          have e : xs = ys := by
            have := hok.2
            rwa [List.take_length, hll, List.take_length] at this
          rw [decide_eq_true hok.1.1.1, decide_eq_true hok.1.1.2, decide_eq_true e]; rfl
      exact ret1 (.inr rfl) Try.results11 rfl fun w' h => ⟨(), trivial, by rw [← hfin], h.sub (by repeat (first | exact TakeL.nil | (apply TakeL.cons; · repeat (first | exact Take1.head | apply Take1.tail))))⟩
end Go.Proofs.Ytfdnnlcfolgegaa
