/- Records by a key: plain laws; a function value that tells a key. -/
import Derived.Test.YtbgimajbehodnaaGreatDoorRepC
import Derived.Test.YtbgimajbehodnaaGreatDoorRepQ
import Derived.Test.YtbgimajbehodnaaGreatDoorSoLV
import Derived.Test.YtbgimajbehodnaaGreatDoorLibK
import Derived.Test.YtbgimajbehodnaaGreatDoorLibF
import Derived.Test.YtbgimajbehodnaaGreatDoorLibRg
namespace Go.Proofs.YtbgimajbehodnaaGreatDoor
open Go Go.RowKit
/-! ### Keys handed over -/
def kAt (k : IntKind) (m : List (Int × Sm)) (j : Nat) : Array Value := #[.int k ((m.map (·.1)).getD j 0)]
def ksY (k : IntKind) (m : List (Int × Sm)) : List (Array Value) := m.map fun p => #[.int k p.1]
theorem ksY_eq (k : IntKind) (m : List (Int × Sm)) : (List.range m.length).map (kAt k m) = ksY k m := by
  apply List.ext_getElem
  · simp [ksY]
  · intro i h1 h2
    simp only [List.length_map, List.length_range] at h1
    simp [ksY, kAt, h1]
theorem ks_rest {k : IntKind} {m : List (Int × Sm)} {done : List Nat} {j : Nat} {p : Int × Sm} (hn : done.Nodup) (hb : ∀ x ∈ done, x < m.length) (hj : j ∉ done) (hp : m[j]? = some p) :
    ∃ rest, (done.map (kAt k m) ++ (#[.int k p.1] : Array Value) :: rest).Perm (ksY k m) := by
  have hjm := (List.getElem?_eq_some_iff.1 hp).1
  obtain ⟨rest, h⟩ := left_of (n := m.length) (l := done ++ [j]) (List.nodup_append.2 ⟨hn, by simp, fun a ha b hb' e => by simp at hb'; subst hb'; subst e; exact hj ha⟩) (fun x hx => by
    rcases List.mem_append.1 hx with hx | hx
    · exact hb x hx
    · rw [List.mem_singleton.1 hx]; exact hjm)
  refine ⟨rest.map (kAt k m), ?_⟩
  have := h.map (kAt k m)
  rw [ksY_eq, List.append_assoc, List.map_append] at this
  have e : kAt k m j = #[.int k p.1] := by simp [kAt, hp]
  rw [← e]
  simpa using this
def encK (k : IntKind) (z : Int) : Array Value := #[.int k z]
def decK (a : Array Value) : Int := match a[0]? with | some (Value.int _ z) => z | _ => 0
theorem encK_perm {k : IntKind} {xs zs : List Int} (h : (xs.map (encK k)).Perm (zs.map (encK k))) : xs.Perm zs := by
  have := h.map decK
  rw [List.map_map, List.map_map] at this
  have e : decK ∘ encK k = id := by funext z; rfl
  rwa [e, List.map_id, List.map_id] at this
theorem encK_size {k : IntKind} {zs : List Int} : ∀ x ∈ zs.map (encK k), x.size = 1 := by
  intro x hx
  obtain ⟨z, _, rfl⟩ := List.mem_map.1 hx
  rfl
theorem ksY_enc (k : IntKind) (m : List (Int × Sm)) : ksY k m = (m.map (·.1)).map (encK k) := by
  simp [ksY, encK]
theorem asc_eq {xs zs : List Int} (h : xs.Perm zs) : asc xs = asc zs := by
  have hp : (asc xs).Perm (asc zs) := (asc_perm xs).trans (h.trans (asc_perm zs).symm)
  exact hp.eq_of_pairwise (fun a b _ _ h1 h2 => by omega) (asc_sorted xs) (asc_sorted zs)

/-! ### Sums by a key -/
section
variable (key : Rc → Int)
def selS (k : Int) (xs : List Rc) : List Rc := xs.filter fun x => decide (key x = k)
def byM (xs : List Rc) : List (Int × Sm) := xs.foldl (fun m x => mput m (key x) (joinS ((mget m (key x)).getD Sm.zero) (oneS x))) []
theorem byM_snoc (xs : List Rc) (x : Rc) : byM key (xs ++ [x]) = mput (byM key xs) (key x) (joinS ((mget (byM key xs) (key x)).getD Sm.zero) (oneS x)) := by simp [byM]
theorem byM_nd (xs : List Rc) : mnd (byM key xs) := by
  refine snoc_ind' (p := fun xs => mnd (byM key xs)) List.Pairwise.nil (fun xs x h => ?_) xs
  rw [byM_snoc]
  exact mput_nd h _ _
theorem selS_snoc (k : Int) (xs : List Rc) (x : Rc) : selS key k (xs ++ [x]) = if key x = k then selS key k xs ++ [x] else selS key k xs := by
  unfold selS
  rw [List.filter_append, List.filter_cons, List.filter_nil]
  by_cases e : key x = k
  · rw [if_pos e, if_pos (by simp [e])]
  · rw [if_neg e, if_neg (by simp [e]), List.append_nil]
theorem byM_get (xs : List Rc) (k : Int) : mget (byM key xs) k = if selS key k xs = [] then none else some (sumS (selS key k xs)) := by
  revert k
  refine snoc_ind' (p := fun xs => ∀ k, mget (byM key xs) k = if selS key k xs = [] then none else some (sumS (selS key k xs))) (fun k => rfl) (fun xs x h k => ?_) xs
  rw [byM_snoc, mget_put (byM_nd key xs), selS_snoc]
  by_cases e : k = key x
  · subst e
    rw [if_pos rfl, if_pos rfl, if_neg (by simp), h (key x), sumS_snoc]
    split
    · rename_i e0; rw [e0]; rfl
    · rfl
  · rw [if_neg e, h k, if_neg (show ¬ key x = k from fun q => e q.symm)]
theorem byM_len (xs : List Rc) : (byM key xs).length ≤ xs.length := by
  refine snoc_ind' (p := fun xs => (byM key xs).length ≤ xs.length) (Nat.le_refl _) (fun xs x h => ?_) xs
  rw [byM_snoc, mput_len, List.length_append, List.length_singleton]
  split <;> omega
theorem byM_mem {xs : List Rc} {p : Int × Sm} (h : p ∈ byM key xs) : ∃ x ∈ xs, key x = p.1 := by
  have h2 := (mget_some (byM_nd key xs) (k := p.1) (v := p.2)).2 h
  rw [byM_get] at h2
  split at h2
  · cases h2
  · rename_i hne
    obtain ⟨x, hx⟩ := List.exists_mem_of_ne_nil _ hne
    have := List.mem_filter.1 hx
    exact ⟨x, this.1, by simpa using this.2⟩
/-- The keys, ascending. -/
def byK (xs : List Rc) : List Int := asc ((byM key xs).map (·.1))
theorem byK_len (xs : List Rc) : (byK key xs).length = (byM key xs).length := by unfold byK; rw [asc_len, List.length_map]
theorem byK_mem {xs : List Rc} {k : Int} : k ∈ byK key xs ↔ ∃ x ∈ xs, key x = k := by
  unfold byK
  rw [(asc_perm _).mem_iff]
  constructor
  · intro h
    obtain ⟨p, hp, rfl⟩ := List.mem_map.1 h
    exact byM_mem key hp
  · rintro ⟨x, hx, rfl⟩
    have hne : selS key (key x) xs ≠ [] := List.ne_nil_of_mem (List.mem_filter.2 ⟨hx, by simp⟩)
    have := byM_get key xs (key x)
    rw [if_neg hne] at this
    exact List.mem_map.2 ⟨_, (mget_some (byM_nd key xs)).1 this, rfl⟩
theorem byK_nd (xs : List Rc) : (byK key xs).Nodup := by
  unfold byK
  refine (asc_perm _).nodup_iff.2 ?_
  exact List.pairwise_map.2 (byM_nd key xs)
theorem byK_lt (xs : List Rc) : (byK key xs).Pairwise (· < ·) := by
  have h1 : (byK key xs).Pairwise (· ≤ ·) := asc_sorted _
  have h2 : (byK key xs).Pairwise (· ≠ ·) := byK_nd key xs
  exact (h1.and h2).imp fun h => by have := h.1; have := h.2; omega
theorem byK_sel {xs : List Rc} {k : Int} (h : k ∈ byK key xs) : mget (byM key xs) k = some (sumS (selS key k xs)) := by
  obtain ⟨x, hx, rfl⟩ := (byK_mem key).1 h
  have hne : selS key (key x) xs ≠ [] := List.ne_nil_of_mem (List.mem_filter.2 ⟨hx, by simp⟩)
  rw [byM_get, if_neg hne]
theorem selS_ok {xs : List Rc} (h : ∀ r ∈ xs, r.ok) (k : Int) : ∀ r ∈ selS key k xs, r.ok := fun r hr => h r (List.mem_filter.1 hr).1
/-- The keys and their sums. -/
def byV (xs : List Rc) : List (Int × Sm) := (byK key xs).map fun k => (k, sumS (selS key k xs))
theorem byV_len (xs : List Rc) : (byV key xs).length = (byK key xs).length := List.length_map _
theorem byV_le (xs : List Rc) : (byV key xs).length ≤ xs.length := by rw [byV_len, byK_len]; exact byM_len key xs
def ysB (k : IntKind) (l : List (Int × Sm)) : List (Array Value) := l.map fun p => #[.int k p.1, smV p.2]
end
theorem ysB_len (k : IntKind) (l : List (Int × Sm)) : (ysB k l).length = l.length := List.length_map _
theorem ysB_at {k : IntKind} {l : List (Int × Sm)} {i : Nat} {y : Array Value} (h : (ysB k l)[i]? = some y) : ∃ p, l[i]? = some p ∧ y = #[.int k p.1, smV p.2] := by
  simp [ysB] at h
  obtain ⟨a, b, h1, h2⟩ := h
  exact ⟨(a, b), h1, h2.symm⟩
theorem ysB_get {key : Rc → Int} {k : IntKind} {xs : List Rc} {i : Nat} {z : Int} (h : (byK key xs)[i]? = some z) : (ysB k (byV key xs))[i]? = some #[.int k z, smV (sumS (selS key z xs))] := by simp [ysB, byV, h]
theorem ysB_size {k : IntKind} {l : List (Int × Sm)} : ∀ y ∈ ysB k l, y.size = 2 := by
  intro y hy
  obtain ⟨x, _, rfl⟩ := List.mem_map.1 hy
  rfl

/-! ### A function value that tells a key -/
def KyP (P : Program) (gk : Nat) (cap : List Value) (own : Nat → Prop) (k : IntKind) (key : Rc → Int) (w : World) : Prop :=
  ∀ w', Chg (fun i => ¬ own i) w w' → ∀ x : Rc, x.ok → Fn P gk (rcV x :: cap) [] w' (fun _ : Unit => True) (fun _ => .int k (key x)) (fun _ => [])
def kyR (P : Program) (gk : Nat) (cap : List Value) (own : Nat → Prop) (k : IntKind) (key : Rc → Int) : Res where
  fp := own
  wr := noB
  sub := fun _ h => h.elim
  ok := fun w => KyP P gk cap own k key w ∧ ∀ i, own i → i < w.heap.size
  lt := fun w h i hi => h.2 i hi
  st := fun w w' D h hc hd => ⟨fun w2 h2 x hx => h.1 w2 (hc.trans' h2 (fun i _ hi ho => hd i ho hi) (fun i _ hi => hi)) x hx, fun i hi => Nat.lt_of_lt_of_le (h.2 i hi) hc.size⟩
theorem OK.toKy {w0 : World} {S : Pm} {A F : List Res} {w : World} {P : Program} {gk : Nat} {cap : List Value} {own : Nat → Prop} {k : IntKind} {key : Rc → Int} (h : OK w0 S (A ++ F) w) (hi : KyP P gk cap own k key w) (ho : ∀ k, own k → (fpL A).rd k) : OK w0 S (kyR P gk cap own k key :: F) w := by
  refine OK.upd (B := [kyR P gk cap own k key]) h (OK.one (Chg.refl _ _) ⟨hi, fun k hk => ?_⟩ (fun k hk _ => hk.elim) (fun k hk _ => ho k hk))
  obtain ⟨r, hr, hk⟩ := ho k hk
  exact r.lt w (h.all r (List.mem_append_left _ hr)) k hk
theorem OK.ky {w0 : World} {S : Pm} {H F : List Res} {w : World} {P : Program} {gk : Nat} {cap : List Value} {own : Nat → Prop} {k : IntKind} {key : Rc → Int} (h : OK w0 S H w) (t : Take1 H (kyR P gk cap own k key) F) {x : Rc} (hx : x.ok) : Fn P gk (rcV x :: cap) [] w (fun _ : Unit => True) (fun _ => .int k (key x)) (fun _ => []) :=
  (h.get t).1 w (Chg.refl _ _) x hx
end Go.Proofs.YtbgimajbehodnaaGreatDoor
