/- Slices of records, of numbers, as a frame opens them. -/
import Derived.Test.YtmcdbjbkkejbbaaGreatMerG
import Derived.Test.YtmcdbjbkkejbbaaGreatLibX
import Derived.Test.YtmcdbjbkkejbbaaGreatLibM
import Derived.Test.YtmcdbjbkkejbbaaGreatLibZ
namespace Go.Proofs.YtmcdbjbkkejbbaaGreat
open Go Go.RowKit
theorem bytes_fits : ∀ {n : Nat} {cs : List Value}, Fits1 (List.replicate n (some .u8)) cs → ∃ ys : List Int, cs = ints .u8 ys ∧ ys.length = n ∧ Bytes ys
  | 0, [], _ => ⟨[], rfl, rfl, fun x hx => nomatch hx⟩
  | 0, _ :: _, h => h.elim
  | n + 1, [], h => h.elim
  | n + 1, c :: cs, h => by
    obtain ⟨ys, rfl, h2, h3⟩ := bytes_fits (n := n) (cs := cs) h.2
    match c, h.1 with
    | .int q y, h1 =>
      obtain ⟨rfl, hw⟩ := h1
      refine ⟨y :: ys, rfl, by simp [h2], fun z hz => ?_⟩
      rcases List.mem_cons.1 hz with rfl | hz
      · exact wf_u8 hw
      · exact h3 z hz
theorem Rc.of_fits {cs : List Value} (h : Fits1 rcLeaf cs) : ∃ r : Rc, r.ok ∧ cs = r.cells := by
  obtain ⟨h1, h2⟩ := Fits1.app (ks := List.replicate 16 (some .u8)) h
  rw [List.length_replicate] at h1 h2
  obtain ⟨id, e1, hl, hb⟩ := bytes_fits h1
  obtain ⟨ds, e2⟩ : ∃ ds, cs.drop 16 = ds := ⟨_, rfl⟩
  rw [e2] at h2
  have hcs : cs = ints .u8 id ++ ds := by rw [← e1, ← e2, List.take_append_drop]
  match ds, h2 with
  | [.int q1 p, .bool o, .int q2 c, .int q3 b, .int q4 a, .int q5 e], h2 =>
    obtain ⟨⟨rfl, w1⟩, _, ⟨rfl, w2⟩, ⟨rfl, w3⟩, ⟨rfl, w4⟩, ⟨rfl, w5⟩, _⟩ := h2
    exact ⟨⟨id, p, o, c, b, a, e⟩, ⟨hl, hb, wf_u8 w1, wf_u8 w2, wf_u64 w3, wf_u64 w4, wf_u64 w5⟩, hcs⟩

variable {P : Program} {w : World} {base : Nat} {sp : Nat → Bool} {held : Bool} {H : Type} {enc : TypeId × Value → H}
theorem open_recs {t e : TypeId} {a : Option Addr} {len cap : Nat} {x : DataW H} {p : List MemPlace} (ht : P.underlying t = some (.slice e)) (hf : flatT P 5 e = some rcLeaf) (hc : P.cellsOf e = 22)
    (h : DataW.Trod enc P w base sp held t (.slice a len cap) x p) : ∃ rs : List Rc, rs.length = len ∧ ROk rs ∧ Rd w 22 (.slice a len cap) len (vcs rcV rs) := by
  obtain ⟨xss, h1, h2, h3⟩ := open_flats (d := 5) (ks := rcLeaf) ht hf hc h
  have : ∃ rs : List Rc, xss = rs.map Rc.cells ∧ ROk rs := by
    clear h1 h3
    induction xss with
    | nil => exact ⟨[], rfl, fun x hx => nomatch hx⟩
    | cons ys xss ih =>
      obtain ⟨rs, rfl, hrs⟩ := ih (fun zs hz => h2 zs (by simp [hz]))
      obtain ⟨r, hr, rfl⟩ := Rc.of_fits (h2 ys (by simp)).1
      exact ⟨r :: rs, rfl, fun z hz => by
        rcases List.mem_cons.1 hz with rfl | hz
        · exact hr
        · exact hrs z hz⟩
  obtain ⟨rs, rfl, hrs⟩ := this
  refine ⟨rs, by simpa using h1, hrs, ?_⟩
  have e1 : (rs.map Rc.cells).flatten = vcs rcV rs := by
    clear h1 h2 h3 hrs
    induction rs with
    | nil => rfl
    | cons y ys ih => rw [List.map_cons, List.flatten_cons, ih, vcs_cons]; simp [rcV, Value.cells]
  rwa [e1] at h3
theorem open_u16s {t e : TypeId} {a : Option Addr} {len cap : Nat} {x : DataW H} {p : List MemPlace} (ht : P.underlying t = some (.slice e)) (he : P.underlying e = some (.int .u16)) (hc : P.cellsOf e = 1)
    (h : DataW.Trod enc P w base sp held t (.slice a len cap) x p) : ∃ xs : List Int, xs.length = len ∧ (∀ y ∈ xs, 0 ≤ y ∧ y < 65536) ∧ Rd w 1 (.slice a len cap) len (ints .u16 xs) := by
  obtain ⟨xss, h1, h2, h3⟩ := open_flats (d := 1) (ks := [some .u16]) ht (by simp [flatT, he]) hc h
  have : ∃ xs : List Int, xss = xs.map (fun y => [Value.int .u16 y]) ∧ ∀ y ∈ xs, 0 ≤ y ∧ y < 65536 := by
    clear h1 h3
    induction xss with
    | nil => exact ⟨[], rfl, fun y hy => nomatch hy⟩
    | cons ys xss ih =>
      obtain ⟨xs, rfl, hxs⟩ := ih (fun zs hz => h2 zs (by simp [hz]))
      obtain ⟨hf, hl⟩ := h2 ys (by simp)
      match ys, hf with
      | [.int q y], hf =>
        obtain ⟨⟨rfl, hw⟩, _⟩ := hf
        exact ⟨y :: xs, rfl, fun z hz => by
          rcases List.mem_cons.1 hz with rfl | hz
          · exact wf_u16 hw
          · exact hxs z hz⟩
  obtain ⟨xs, rfl, hxs⟩ := this
  refine ⟨xs, by simpa using h1, hxs, ?_⟩
  have e1 : (xs.map fun y => [Value.int .u16 y]).flatten = ints .u16 xs := by
    clear h1 h2 h3 hxs
    induction xs with
    | nil => rfl
    | cons y ys ih => rw [List.map_cons, List.flatten_cons, ih]; rfl
  rwa [e1] at h3
theorem open_recz {t e : TypeId} {a : Option Addr} {len cap : Nat} {x : DataW H} {p : List MemPlace} (ht : P.underlying t = some (.slice e)) (hf : flatT P 5 e = some rcLeaf) (hc : P.cellsOf e = 22) (hb : 0 < P.bytesOf e)
    (hs : ∀ n ∈ x.weights P t, n ≤ reachBytes) (h : DataW.Trod enc P w base sp held t (.slice a len cap) x p) : ∃ rs : List Rc, rs.length = len ∧ rs.length ≤ reachBytes ∧ ROk rs ∧ Rd w 22 (.slice a len cap) len (vcs rcV rs) := by
  obtain ⟨rs, h1, h2, h3⟩ := open_recs ht hf hc h
  obtain ⟨fuel, h⟩ := h
  exact ⟨rs, h1, by rw [h1]; exact sliceLen ht hb h hs, h2, h3⟩
end Go.Proofs.YtmcdbjbkkejbbaaGreat
