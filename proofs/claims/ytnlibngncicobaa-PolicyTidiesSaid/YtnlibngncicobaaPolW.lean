/- Slices of rules, of numbers, as a frame opens them. -/
import Derived.Test.YtnlibngncicobaaPolT
import Derived.Test.YtnlibngncicobaaLibX
import Derived.Test.YtnlibngncicobaaLibM
import Derived.Test.YtnlibngncicobaaLibZ
namespace Go.Proofs.Ytnlibngncicobaa
open Go Go.RowKit
variable {P : Program} {w : World} {base : Nat} {sp : Nat → Bool} {held : Bool} {H : Type} {enc : TypeId × Value → H}
theorem sliceBytes {e u : TypeId} {a : Option Addr} {l c n : Nat} {x : DataW H} {p : List MemPlace} (he : P.underlying e = some (.slice u)) (h : DataW.trod enc P w base sp held n e [.slice a l c] = some (x, p)) (hs : ∀ n ∈ x.weights P e, n ≤ reachBytes) : l * P.bytesOf u ≤ reachBytes := by
  rcases Go.Deep.open_slice he h with ⟨h1, _⟩ | ⟨_, _, _, m, _, D, _, h1, _, _, _, _, h2, _⟩
  · simp at h1
    obtain ⟨_, rfl, _⟩ := h1
    simp
  · simp at h1
    obtain ⟨rfl, rfl, rfl⟩ := h1
    have hx : x = .slice ((List.range l).map D) ((List.range (m - l)).map fun j => D (l + j)) := congrArg Prod.fst h2
    subst hx
    have := hs ((((List.range l).map D).length + ((List.range (m - l)).map fun j => D (l + j)).length) * P.bytesOf u) (by simp [DataW.weights, he])
    rw [List.length_map, List.length_range] at this
    exact Nat.le_trans (Nat.mul_le_mul_right _ (Nat.le_add_right _ _)) this
theorem open_rus {t e : TypeId} {a : Option Addr} {len cap : Nat} {x : DataW H} {p : List MemPlace} (ht : P.underlying t = some (.slice e)) (hf : flatT P 5 e = some ruLeaf) (hc : P.cellsOf e = 5)
    (h : DataW.Trod enc P w base sp held t (.slice a len cap) x p) : ∃ rs : List Ru, rs.length = len ∧ UOk rs ∧ Rd w 5 (.slice a len cap) len (vcs ruV rs) := by
  obtain ⟨xss, h1, h2, h3⟩ := open_flats (d := 5) (ks := ruLeaf) ht hf hc h
  have : ∃ rs : List Ru, xss = rs.map Ru.cells ∧ UOk rs := by
    clear h1 h3
    induction xss with
    | nil => exact ⟨[], rfl, fun x hx => nomatch hx⟩
    | cons ys xss ih =>
      obtain ⟨rs, rfl, hrs⟩ := ih (fun zs hz => h2 zs (by simp [hz]))
      obtain ⟨r, hr, rfl⟩ := Ru.of_fits (h2 ys (by simp)).1
      exact ⟨r :: rs, rfl, fun z hz => by
        rcases List.mem_cons.1 hz with rfl | hz
        · exact hr
        · exact hrs z hz⟩
  obtain ⟨rs, rfl, hrs⟩ := this
  refine ⟨rs, by simpa using h1, hrs, ?_⟩
  have e1 : (rs.map Ru.cells).flatten = vcs ruV rs := by
    clear h1 h2 h3 hrs
    induction rs with
    | nil => rfl
    | cons y ys ih => rw [List.map_cons, List.flatten_cons, ih, vcs_cons]; simp [ruV, Value.cells]
  rwa [e1] at h3
theorem open_ruz {t e : TypeId} {a : Option Addr} {len cap : Nat} {x : DataW H} {p : List MemPlace} (ht : P.underlying t = some (.slice e)) (hf : flatT P 5 e = some ruLeaf) (hc : P.cellsOf e = 5) (hb : P.bytesOf e = 8)
    (hs : ∀ n ∈ x.weights P t, n ≤ reachBytes) (h : DataW.Trod enc P w base sp held t (.slice a len cap) x p) : ∃ rs : List Ru, rs.length = len ∧ rs.length ≤ 17592186044416 ∧ UOk rs ∧ Rd w 5 (.slice a len cap) len (vcs ruV rs) := by
  obtain ⟨rs, h1, h2, h3⟩ := open_rus ht hf hc h
  obtain ⟨fuel, h⟩ := h
  refine ⟨rs, h1, ?_, h2, h3⟩
  have := sliceBytes ht h hs
  rw [hb] at this
  have hr : reachBytes = 140737488351232 := rfl
  omega
theorem open_u16s {t e : TypeId} {a : Option Addr} {len cap : Nat} {x : DataW H} {p : List MemPlace} (ht : P.underlying t = some (.slice e)) (he : P.underlying e = some (.int .u16)) (hc : P.cellsOf e = 1)
    (h : DataW.Trod enc P w base sp held t (.slice a len cap) x p) : ∃ xs : List Int, xs.length = len ∧ (∀ y ∈ xs, 0 ≤ y ∧ y < 65536) ∧ Rd w 1 (.slice a len cap) len (ints .u16 xs) := by
  obtain ⟨xss, h1, h2, h3⟩ := open_flats (d := 1) (ks := [some .u16]) ht (by simp [flatT, he]) hc h
  have : ∃ xs : List Int, xss = xs.map (fun y => [Value.int .u16 y]) ∧ ∀ y ∈ xs, 0 ≤ y ∧ y < 65536 := by
    clear h1 h3
    induction xss with
    | nil => exact ⟨[], rfl, fun y hy => nomatch hy⟩
    | cons ys xss ih =>
      obtain ⟨xs, rfl, hxs⟩ := ih (fun zs hz => h2 zs (by simp [hz]))
      obtain ⟨hf, hl⟩ := h2 ys (by simp)
      match ys, hf with
      | [.int q y], hf =>
        obtain ⟨⟨rfl, hw⟩, _⟩ := hf
        exact ⟨y :: xs, rfl, fun z hz => by
          rcases List.mem_cons.1 hz with rfl | hz
          · exact wf_u16 hw
          · exact hxs z hz⟩
  obtain ⟨xs, rfl, hxs⟩ := this
  refine ⟨xs, by simpa using h1, hxs, ?_⟩
  have e1 : (xs.map fun y => [Value.int .u16 y]).flatten = ints .u16 xs := by
    clear h1 h2 h3 hxs
    induction xs with
    | nil => rfl
    | cons y ys ih => rw [List.map_cons, List.flatten_cons, ih]; rfl
  rwa [e1] at h3
end Go.Proofs.Ytnlibngncicobaa
