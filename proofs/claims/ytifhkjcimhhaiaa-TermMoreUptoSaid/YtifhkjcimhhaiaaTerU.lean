/- The document's pool in memory: what stands in it, what is found in it: plain laws. -/
import Derived.Test.YtifhkjcimhhaiaaTerS
import Derived.Test.YtifhkjcimhhaiaaLibBu
namespace Go.Proofs.Ytifhkjcimhhaiaa
open Go Go.RowKit
def iN (l : List Nat) : List Int := l.map fun i : Nat => (i : Int)
theorem iN_len (l : List Nat) : (iN l).length = l.length := List.length_map _
theorem iN_get {l : List Nat} {i x : Nat} (h : l[i]? = some x) : (iN l)[i]? = some (x : Int) := by unfold iN; rw [List.getElem?_map, h]; rfl
theorem iN_cell {l : List Nat} {i x : Nat} (h : l[i]? = some x) : (ints .i64 (iN l))[i]? = some (.int .i64 (x : Int)) := by unfold ints; rw [List.getElem?_map, iN_get h]; rfl
theorem iN_app (l m : List Nat) : iN (l ++ m) = iN l ++ iN m := List.map_append ..
/-- A node, and where its parts lie. -/
structure Pn where
  nd : Nd
  ao : Option Addr
  cap : Nat
def pnS (p : Pn) : Value := .slice p.ao p.nd.pt.length p.cap
def Pn.cells (p : Pn) : List Value := [.int .u8 p.nd.k, .int .u64 p.nd.n, pnS p]
def pnV (p : Pn) : Value := .agg p.cells.toArray
theorem Pn.ones (p : Pn) : ∀ v ∈ p.cells, v.oneCell' = true := by
  intro v hv
  simp [Pn.cells, pnS] at hv
  rcases hv with rfl | rfl | rfl <;> rfl
theorem vtPn : VT Try.prog 38 3 (fun _ : Pn => True) pnV := .agg (cel := Pn.cells) (by kernel_rfl) (by kernel_rfl) (by decide) (fun _ => rfl) (fun _ _ => rfl) (fun r => r.ones)
theorem pnAll {ps : List Pn} : ∀ x ∈ ps, (fun _ : Pn => True) x := fun _ _ => trivial
theorem vtB : VT Try.prog 4 1 (fun _ : Bool => True) Value.bool := .one (by kernel_rfl) (by kernel_rfl) (fun _ => ⟨rfl, rfl⟩)
theorem boAll {c : List Bool} : ∀ x ∈ c, (fun _ : Bool => True) x := fun _ _ => trivial
def pnR (p : Pn) : Res := rdR (pnS p) 1 p.nd.pt.length (ints .i64 (iN p.nd.pt))
def pnL (ps : List Pn) : List Res := ps.map pnR
def nds (ps : List Pn) : List Nd := ps.map (·.nd)
theorem nds_len (ps : List Pn) : (nds ps).length = ps.length := List.length_map _
theorem nds_get {ps : List Pn} {i : Nat} {x : Pn} (h : ps[i]? = some x) : (nds ps)[i]? = some x.nd := by unfold nds; rw [List.getElem?_map, h]; rfl
/-- A pool that may be read. -/
structure PlS (w : World) (T : Pm) (v : Value) (ps : List Pn) : Prop where
  rows : RdS w T v 3 ps.length (vcs pnV ps)
  pts : ∀ p ∈ ps, RdS w T (pnS p) 1 p.nd.pt.length (ints .i64 (iN p.nd.pt))
section
variable {c : Cx} {A F : List Res}
theorem OK.srcL {F' F2 : List Res} {w : World} {r : Res} {v : Value} {ps : List Pn} (hw : OK c.w0 c.S (A ++ F) w) (h : RdOf r v 3 ps.length (vcs pnV ps)) (t : Take1 F r F') (t2 : Take1 F (bunR (pnL ps)) F2) : PlS w (fpL A) v ps :=
  ⟨hw.src h t, fun p hp => hw.src (RdOf.bun (List.mem_map.2 ⟨p, hp, rfl⟩)) t2⟩
end
/-! ### A node's place -/
def findP (p : List Nd) (nd : Nd) : Option Nat := p.findIdx? fun x => decide (x = nd)
def plI (o : Option Nat) : Int := match o with
  | some i => (i : Int)
  | none => -1
theorem find_hit {p : List Nd} {nd x : Nd} {i : Nat} (hx : p[i]? = some x) (hn : ∀ y ∈ p.take i, y ≠ nd) (he : x = nd) : findP p nd = some i := by
  obtain ⟨hi, hxi⟩ := List.getElem?_eq_some_iff.1 hx
  refine List.findIdx?_eq_some_iff_getElem.2 ⟨hi, by simp [hxi, he], fun j hj => ?_⟩
  have : p[j] ∈ p.take i := by
    rw [List.mem_take_iff_getElem]
    exact ⟨j, by omega, rfl⟩
  simpa using hn _ this
theorem find_end {p : List Nd} {nd : Nd} (hn : ∀ y ∈ p, y ≠ nd) : findP p nd = none := by
  refine List.findIdx?_eq_none_iff.2 fun x hx => ?_
  simpa using hn x hx
theorem nno_next {p : List Nd} {nd x : Nd} {j : Nat} (hx : p[j]? = some x) (hn : ∀ y ∈ p.take j, y ≠ nd) (hp : x ≠ nd) : ∀ y ∈ p.take (j + 1), y ≠ nd := by
  intro y hy
  rw [← take_snoc _ _ _ hx] at hy
  rcases List.mem_append.1 hy with hy | hy
  · exact hn y hy
  · rw [List.mem_singleton.1 hy]; exact hp
/-! ### What can be built -/
def cP (c : List Bool) (i : Nat) : Prop := c[i]? = some true
noncomputable def pubB (p : List Nd) (c : List Bool) (i : Nat) : Bool := @decide (pubR p (cP c) i) (Classical.propDecidable _)
noncomputable def rdyB (p : List Nd) (c : List Bool) (nd : Nd) : Bool := @decide (rdyR p (cP c) nd) (Classical.propDecidable _)
theorem rdyB_iff {p : List Nd} {c : List Bool} {nd : Nd} : rdyB p c nd = true ↔ rdyR p (cP c) nd := by unfold rdyB; exact @decide_eq_true_iff _ (Classical.propDecidable _)
/-! ### Going over the pool as long as one more can be -/
theorem cP_set {c : List Bool} {i j : Nat} (hi : i < c.length) : cP (c.set i true) j ↔ cP c j ∨ j = i := by
  unfold cP
  rw [List.getElem?_set]
  by_cases h : i = j
  · subst h; simp [hi]
  · rw [if_neg h]
    exact ⟨.inl, fun q => q.resolve_right fun e => h e.symm⟩
theorem cnt_set {c : List Bool} {i : Nat} (hi : c[i]? = some false) : (c.set i true).count false + 1 = c.count false := by
  obtain ⟨h1, h2⟩ := List.getElem?_eq_some_iff.1 hi
  rw [List.count_set h1, h2]
  have : 0 < c.count false := List.count_pos_iff.2 (List.mem_of_getElem? hi)
  simp
  omega
/-- What a round over the pool keeps: c at its begin, d now, i places gone over, more: one more was found. -/
structure CanI (p : List Nd) (g c : List Bool) (i : Nat) (d : List Bool) (more : Bool) : Prop where
  len : d.length = p.length
  sub : ∀ j, cP g j → cP d j
  snd : ∀ j, j < p.length → cP d j → ((trs p).getD j zT).canP (tsP p (cP g))
  no : more = false → d = c ∧ ∀ j nd, j < i → p[j]? = some nd → rdyR p (cP c) nd → cP c j
  yes : more = true → d.count false < c.count false
theorem CanI.first {p : List Nd} {g : List Bool} (h : g.length = p.length) : CanI p g g 0 g false :=
  ⟨h, fun _ q => q, fun j hj q => can_in ⟨j, hj, q, rfl⟩, fun _ => ⟨rfl, fun j nd hj => absurd hj (Nat.not_lt_zero j)⟩, fun h => nomatch h⟩
theorem CanI.begin {p : List Nd} {g c : List Bool} {i : Nat} {d : List Bool} {more : Bool} (h : CanI p g c i d more) : CanI p g d 0 d false :=
  ⟨h.len, h.sub, h.snd, fun _ => ⟨rfl, fun j nd hj => absurd hj (Nat.not_lt_zero j)⟩, fun h => nomatch h⟩
theorem CanI.keep {p : List Nd} {g c : List Bool} {i : Nat} {d : List Bool} {more : Bool} (h : CanI p g c i d more) {nd : Nd} (hi : p[i]? = some nd) (hn : cP d i ∨ rdyB p d nd = false) : CanI p g c (i + 1) d more := by
  refine ⟨h.len, h.sub, h.snd, fun hm => ?_, h.yes⟩
  obtain ⟨rfl, h2⟩ := h.no hm
  refine ⟨rfl, fun j nd' hj hq hr => ?_⟩
  by_cases e : j = i
  · subst e
    rw [hi] at hq
    cases hq
    rcases hn with hn | hn
    · exact hn
    · rw [rdyB_iff.2 hr] at hn; cases hn
  · exact h2 j nd' (by omega) hq hr
theorem CanI.more {p : List Nd} (hp : PoolOk p) {g c : List Bool} {i : Nat} {d : List Bool} {more : Bool} (h : CanI p g c i d more) {nd : Nd} (hi : p[i]? = some nd) (hf : d[i]? = some false) (hr : rdyB p d nd = true) : CanI p g c (i + 1) (d.set i true) true := by
  obtain ⟨hil, hie⟩ := List.getElem?_eq_some_iff.1 hi
  have hdl : i < d.length := by rw [h.len]; exact hil
  have hc := cnt_set hf
  refine ⟨by rw [List.length_set, h.len], fun j q => (cP_set hdl).2 (.inl (h.sub j q)), fun j hj q => ?_, (fun hm => by cases hm), fun _ => ?_⟩
  · rcases (cP_set hdl).1 q with q | rfl
    · exact h.snd j hj q
    · refine canR_sound hp (c := cP d) h.snd hil ?_
      rw [hie]
      exact rdyB_iff.1 hr
  · cases hm : more with
    | false => obtain ⟨rfl, _⟩ := h.no hm; omega
    | true => have := h.yes hm; omega
theorem CanI.done {p : List Nd} (hp : PoolOk p) {g c d : List Bool} (h : CanI p g c p.length d false) {i : Nat} (hi : i < p.length) : cP d i ↔ ((trs p).getD i zT).canP (tsP p (cP g)) := by
  obtain ⟨rfl, h2⟩ := h.no rfl
  exact can_in_pool hp (fun i _ q => h.sub i q) h.snd (fun i hi hr => h2 i _ hi (List.getElem?_eq_getElem hi) hr) hi
/-- Which can be built of those that are known. -/
structure CanOf (p : List Nd) (g c : List Bool) : Prop where
  len : c.length = p.length
  is : ∀ i, i < p.length → (cP c i ↔ ((trs p).getD i zT).canP (tsP p (cP g)))
/-! ### What is found out -/
structure ClI (p : List Nd) (g c : List Bool) (i : Nat) (d : List Bool) (more : Bool) : Prop where
  len : d.length = p.length
  sub : ∀ j, cP g j → cP d j
  snd : ∀ j, j < p.length → cP d j → ClP (tsP p (cP g)) ((trs p).getD j zT)
  no : more = false → d = c ∧ ∀ j nd, j < i → p[j]? = some nd → cP c j → (nd.k = 2 → ∀ x ∈ nd.pt, cP c x) ∧ (nd.k = 4 → ((trs p).getD (nd.pt.getD 0 0) zT).canP (tsP p (cP c)) → cP c (nd.pt.getD 1 0))
  yes : more = true → d.count false < c.count false
  grow : ∀ j, cP c j → cP d j
theorem ClI.first {p : List Nd} {g : List Bool} (h : g.length = p.length) : ClI p g g 0 g false :=
  ⟨h, fun _ q => q, fun j hj q => cl_in ⟨j, hj, q, rfl⟩, fun _ => ⟨rfl, fun j nd hj => absurd hj (Nat.not_lt_zero j)⟩, (fun h => nomatch h), fun _ q => q⟩
theorem ClI.begin {p : List Nd} {g c : List Bool} {i : Nat} {d : List Bool} {more : Bool} (h : ClI p g c i d more) : ClI p g d 0 d false :=
  ⟨h.len, h.sub, h.snd, fun _ => ⟨rfl, fun j nd hj => absurd hj (Nat.not_lt_zero j)⟩, (fun h => nomatch h), fun _ q => q⟩
/-- One more is found out. -/
theorem ClI.put {p : List Nd} {g c : List Bool} {i : Nat} {d : List Bool} {more : Bool} (h : ClI p g c i d more) {x : Nat} (hx : x < p.length) (hf : d[x]? = some false) (hs : ClP (tsP p (cP g)) ((trs p).getD x zT)) : ClI p g c i (d.set x true) true := by
  have hdl : x < d.length := by rw [h.len]; exact hx
  have hc := cnt_set hf
  refine ⟨by rw [List.length_set, h.len], fun j q => (cP_set hdl).2 (.inl (h.sub j q)), fun j hj q => ?_, (fun hm => by cases hm), fun _ => ?_, fun j q => (cP_set hdl).2 (.inl (h.grow j q))⟩
  · rcases (cP_set hdl).1 q with q | rfl
    · exact h.snd j hj q
    · exact hs
  · cases hm : more with
    | false => obtain ⟨rfl, _⟩ := h.no hm; omega
    | true => have := h.yes hm; omega
theorem ClI.next {p : List Nd} {g c : List Bool} {i : Nat} {d : List Bool} {more : Bool} (h : ClI p g c i d more) {nd : Nd} (hi : p[i]? = some nd)
    (hn : more = false → cP c i → (nd.k = 2 → ∀ x ∈ nd.pt, cP c x) ∧ (nd.k = 4 → ((trs p).getD (nd.pt.getD 0 0) zT).canP (tsP p (cP c)) → cP c (nd.pt.getD 1 0))) : ClI p g c (i + 1) d more := by
  refine ⟨h.len, h.sub, h.snd, fun hm => ?_, h.yes, h.grow⟩
  obtain ⟨rfl, h2⟩ := h.no hm
  refine ⟨rfl, fun j nd' hj hq hr => ?_⟩
  by_cases e : j = i
  · subst e
    rw [hi] at hq
    cases hq
    exact hn hm hr
  · exact h2 j nd' (by omega) hq hr
structure ClOf (p : List Nd) (g d : List Bool) : Prop where
  len : d.length = p.length
  is : ∀ i, i < p.length → (cP d i ↔ ClP (tsP p (cP g)) ((trs p).getD i zT))
theorem ClI.done {p : List Nd} (hp : PoolOk p) {g c d : List Bool} (h : ClI p g c p.length d false) : ClOf p g d := by
  obtain ⟨rfl, h2⟩ := h.no rfl
  refine ⟨h.len, fun i hi => ⟨h.snd i hi, fun q => ?_⟩⟩
  obtain ⟨j, hj, hc, e⟩ := clR_full hp (o := cP d) (g := cP g) (fun i _ q => h.sub i q) (fun i hi hc hk => (h2 i _ hi (List.getElem?_eq_getElem hi) hc).1 hk) (fun i hi hc hk => (h2 i _ hi (List.getElem?_eq_getElem hi) hc).2 hk) q
  rw [← trs_inj hp hj hi e]
  exact hc
end Go.Proofs.Ytifhkjcimhhaiaa

namespace Go.Proofs.Ytifhkjcimhhaiaa
open Go Go.RowKit
mutual
/-- How many parts a term has, together. -/
def Tm.cnt : Tm → Nat
  | .mk _ _ l => 1 + cnts l
def cnts : List Tm → Nat
  | [] => 0
  | t :: l => t.cnt + cnts l
end
theorem cnt_mk (k n : Int) (l : List Tm) : (Tm.mk k n l).cnt = 1 + cnts l := by rw [Tm.cnt]
theorem cnts_cons (t : Tm) (l : List Tm) : cnts (t :: l) = t.cnt + cnts l := by rw [cnts]
theorem cnts_nil : cnts [] = 0 := by rw [cnts]
theorem cnts_map (l : List Tm) : cnts l = (l.map Tm.cnt).sum := by
  induction l with
  | nil => rw [cnts_nil]; rfl
  | cons t l ih => rw [cnts_cons, List.map_cons, List.sum_cons, ih]
theorem cnt_sh (a b : Tm) : (shT a b).cnt = 1 + (a.cnt + b.cnt) := by
  unfold shT
  split <;> rw [cnt_mk, cnts_cons, cnts_cons, cnts_nil] <;> omega
theorem enc_cnt (t : Tm) : t.enc.length ≤ 10 * t.cnt := by
  refine Tm.ind (p := fun t => t.enc.length ≤ 10 * t.cnt) (fun k n l ih => ?_) t
  rw [enc_mk, cnt_mk, List.length_append]
  have h1 := (hd_len k n l.length).2
  have h2 : (encs l).length ≤ 10 * cnts l := by
    clear h1
    induction l with
    | nil => rw [encs_nil, cnts_nil]; exact Nat.le_refl _
    | cons t l ihl =>
      rw [encs_cons, cnts_cons, List.length_append]
      have h3 := ih t (by simp)
      have h4 := ihl fun s hs => ih s (by simp [hs])
      omega
  omega
/-- The sizes of a pool's terms. -/
def szs (p : List Nd) : List Nat := (trs p).map Tm.cnt
theorem szs_len (p : List Nd) : (szs p).length = p.length := by unfold szs; rw [List.length_map, trs_len]
theorem szs_get {p : List Nd} (hp : PoolOk p) {i : Nat} {nd : Nd} (h : p[i]? = some nd) : (szs p)[i]? = some (1 + (nd.pt.map fun j => (szs p).getD j 0).sum) := by
  have h1 := (trs_ok p hp).2.2 i nd h
  have hi := (List.getElem?_eq_some_iff.1 h).1
  have hnd := hp.nd i nd h
  unfold szs
  rw [List.getElem?_map, h1]
  have hg : ∀ j, j < p.length → ((trs p).map Tm.cnt).getD j 0 = ((trs p).getD j zT).cnt := by
    intro j hj
    have hj2 : j < (trs p).length := by rw [trs_len]; exact hj
    simp [List.getD, List.getElem?_eq_getElem hj2]
  have hpt : ∀ j ∈ nd.pt, j < p.length := fun j hj => Nat.lt_trans (hnd.p j hj) hi
  have hm : (nd.pt.map fun j => ((trs p).map Tm.cnt).getD j 0) = nd.pt.map fun j => ((trs p).getD j zT).cnt := List.map_congr_left fun j hj => hg j (hpt j hj)
  rw [hm]
  show some (mkT (trs p) nd).cnt = _
  unfold mkT
  by_cases h6 : nd.k = 6
  · rw [if_pos h6]
    obtain ⟨x, y, e, _⟩ := nd_six hnd.s h6
    rw [e, cnt_sh]
    simp
  · rw [if_neg h6, cnt_mk, cnts_map, List.map_map]
    rfl
/-- Nothing of it is too great. -/
structure Light (p : List Nd) : Prop where
  sum : (szs p).sum ≤ 4000
  pts : ∀ nd ∈ p, nd.pt.length ≤ 40
theorem sum_mem {l : List Nat} {x : Nat} (h : x ∈ l) : x ≤ l.sum := by
  induction l with
  | nil => cases h
  | cons y l ih =>
    rw [List.sum_cons]
    rcases List.mem_cons.1 h with rfl | h
    · omega
    · have := ih h; omega
theorem Light.enc {p : List Nd} (h : Light p) {t : Tm} (ht : t ∈ trs p) : t.enc.length ≤ 40000 := by
  have h1 := enc_cnt t
  have h2 : t.cnt ∈ szs p := List.mem_map.2 ⟨t, ht, rfl⟩
  have := sum_mem h2
  have := h.sum
  omega
end Go.Proofs.Ytifhkjcimhhaiaa
