/- Slices of structs that came in, whose fields are flat or slices: opened row by row, with their sizes. -/
import Derived.Test.YtfobhdmhjjafcaaGreatDoorRRLibM
import Derived.Test.YtfobhdmhjjafcaaGreatDoorRRLibX
namespace Go.Proofs.YtfobhdmhjjafcaaGreatDoorRR
open Go Go.RowKit

section
variable {P : Program} {w : World} {base : Nat} {sp : Nat → Bool} {held : Bool} {H : Type} {enc : TypeId × Value → H}

theorem open_fieldAtL {t ft : TypeId} {i off c fuel : Nat} {cs : List Value} {x : DataW H × List MemPlace} (hf : fieldAt P t i = some (ft, off, c)) (h : DataW.trod enc P w base sp held fuel t cs = some x) :
    cs.length = P.cellsOf t ∧ ∃ m y, DataW.trod enc P w base sp held m ft ((cs.drop off).take c) = some y ∧ ∀ n ∈ y.1.weights P ft, n ∈ x.1.weights P t := by
  unfold fieldAt at hf
  split at hf
  · rename_i fs hu
    obtain ⟨xs, m, rfl, hx, hl, hxl, hi⟩ := DataW.trod_struct hu h
    refine ⟨hl, ?_⟩
    cases hq : fs[i]? with
    | none => simp [hq] at hf
    | some f =>
      simp only [hq, Option.map_some, Option.some.injEq, Prod.mk.injEq] at hf
      obtain ⟨rfl, rfl, rfl⟩ := hf
      have h1 := hi i f hq
      have hlt : i < xs.length := by
        have := (Array.getElem?_eq_some_iff.1 hq).1
        omega
      rw [List.getElem?_eq_getElem hlt] at h1
      refine ⟨m, _, h1, fun n hn => ?_⟩
      rw [hx]
      simp only [DataW.weights, hu]
      refine DataW.weights_mem_each (j := i) (t := f.type) (d := (xs[i]).1) ?_ ?_ n hn
      · rw [List.getElem?_map]; simp [hq]
      · rw [List.getElem?_map, List.getElem?_eq_getElem hlt]; rfl
  · cases hf
theorem open_fieldFL {t ft : TypeId} {i off c d fuel : Nat} {ks : List Leaf} {cs : List Value} {x : DataW H × List MemPlace} (hf : fieldAt P t i = some (ft, off, c)) (hk : flatT P d ft = some ks) (h : DataW.trod enc P w base sp held fuel t cs = some x) :
    Fits1 ks ((cs.drop off).take c) := by
  obtain ⟨_, m, y, hy, _⟩ := open_fieldAtL hf h
  exact trod_flat d hk hy
theorem open_u32r {t e : TypeId} {a : Option Addr} {len cap : Nat} {x : DataW H} {p : List MemPlace} (ht : P.underlying t = some (.slice e)) (he : P.underlying e = some (.int .u32)) (hc : P.cellsOf e = 1)
    (h : DataW.Trod enc P w base sp held t (.slice a len cap) x p) : ∃ xs : List Int, xs.length = len ∧ (∀ y ∈ xs, 0 ≤ y ∧ y < 4294967296) ∧ Rd w 1 (.slice a len cap) len (ints .u32 xs) := by
  obtain ⟨xss, h1, h2, h3⟩ := open_flats (d := 1) (ks := [some .u32]) ht (by simp [flatT, he]) hc h
  have : ∃ xs : List Int, xss = xs.map (fun y => [Value.int .u32 y]) ∧ ∀ y ∈ xs, 0 ≤ y ∧ y < 4294967296 := by
    clear h1 h3
    induction xss with
    | nil => exact ⟨[], rfl, (fun y hy => nomatch hy)⟩
    | cons ys xss ih =>
      obtain ⟨xs, rfl, hxs⟩ := ih (fun zs hz => h2 zs (by simp [hz]))
      obtain ⟨hf, hl⟩ := h2 ys (by simp)
      match ys, hf with
      | [.int q y], hf =>
        obtain ⟨⟨rfl, hw⟩, _⟩ := hf
        refine ⟨y :: xs, rfl, fun z hz => ?_⟩
        rcases List.mem_cons.1 hz with rfl | hz
        · exact wf_u32' hw
        · exact hxs z hz
  obtain ⟨xs, rfl, hxs⟩ := this
  refine ⟨xs, by simpa using h1, hxs, ?_⟩
  have e : (xs.map (fun y => [Value.int .u32 y])).flatten = ints .u32 xs := by
    clear h1 h2 h3 hxs
    induction xs with
    | nil => rfl
    | cons x xs ih => rw [List.map_cons, List.flatten_cons, ih]; rfl
  rwa [e] at h3
/-- A field that is a slice of bytes, and its size. -/
theorem open_fieldBL {t ft e : TypeId} {i off c fuel : Nat} {cs : List Value} {x : DataW H × List MemPlace} (hf : fieldAt P t i = some (ft, off, c)) (ht : P.underlying ft = some (.slice e)) (he : P.underlying e = some (.int .u8)) (hc : P.cellsOf e = 1) (hb : 0 < P.bytesOf e) (h : DataW.trod enc P w base sp held fuel t cs = some x) (hs : ∀ n ∈ x.1.weights P t, n ≤ reachBytes) :
    ∃ (a : Option Addr) (cap : Nat) (xs : List Int), (cs.drop off).take c = [.slice a xs.length cap] ∧ (∀ y ∈ xs, 0 ≤ y ∧ y < 256) ∧ xs.length ≤ reachBytes ∧ Rd w 1 (.slice a xs.length cap) xs.length (ints .u8 xs) := by
  obtain ⟨_, m, y, hy, hw⟩ := open_fieldAtL hf h
  rcases Go.Deep.open_slice ht hy with ⟨h0, _⟩ | ⟨a, len, cap, m', n, D, Pl, h0, _⟩
  · exact ⟨none, 0, [], h0, (fun _ h => by cases h), Nat.zero_le _, Rd.nil w 1⟩
  · rw [h0] at hy
    have hl := sliceLen ht hb (x := y.1) (p := y.2) hy (fun n hn => hs n (hw n hn))
    obtain ⟨xs, rfl, h1, h2⟩ := open_u8s ht he hc (show DataW.Trod enc P w base sp held ft (.slice (some a) len cap) y.1 y.2 from ⟨m, by simpa [Value.cells] using hy⟩)
    exact ⟨some a, cap, xs, h0, h1, hl, h2⟩
theorem open_fieldU {t ft e : TypeId} {i off c fuel : Nat} {cs : List Value} {x : DataW H × List MemPlace} (hf : fieldAt P t i = some (ft, off, c)) (ht : P.underlying ft = some (.slice e)) (he : P.underlying e = some (.int .u32)) (hc : P.cellsOf e = 1) (hb : 0 < P.bytesOf e) (h : DataW.trod enc P w base sp held fuel t cs = some x) (hs : ∀ n ∈ x.1.weights P t, n ≤ reachBytes) :
    ∃ (a : Option Addr) (cap : Nat) (xs : List Int), (cs.drop off).take c = [.slice a xs.length cap] ∧ (∀ y ∈ xs, 0 ≤ y ∧ y < 4294967296) ∧ xs.length ≤ reachBytes ∧ Rd w 1 (.slice a xs.length cap) xs.length (ints .u32 xs) := by
  obtain ⟨_, m, y, hy, hw⟩ := open_fieldAtL hf h
  rcases Go.Deep.open_slice ht hy with ⟨h0, _⟩ | ⟨a, len, cap, m', n, D, Pl, h0, _⟩
  · exact ⟨none, 0, [], h0, (fun _ h => by cases h), Nat.zero_le _, Rd.nil w 1⟩
  · rw [h0] at hy
    have hl := sliceLen ht hb (x := y.1) (p := y.2) hy (fun n hn => hs n (hw n hn))
    obtain ⟨xs, rfl, h1, h2⟩ := open_u32r ht he hc (show DataW.Trod enc P w base sp held ft (.slice (some a) len cap) y.1 y.2 from ⟨m, by simpa [Value.cells] using hy⟩)
    exact ⟨some a, cap, xs, h0, h1, hl, h2⟩

theorem rd_chunks {size len cap : Nat} {ad : Addr} {xss : List (List Value)} (hl : len ≤ cap) (hm : cap ≤ maxLen) (hsz : ∀ xs ∈ xss, xs.length = size) (hlen : xss.length = len) (hget : ∀ i xs, xss[i]? = some xs → w.cells? base (ad.add (i * size)) size = some xs) : Rd w size (.slice (some ad) len cap) len xss.flatten := by
  refine ⟨by rw [flat_len hsz, hlen], .inr ⟨ad, cap, rfl, hl, hm, fun j u hj => ?_⟩⟩
  obtain ⟨i, xs, k, h1, h2, rfl⟩ := flat_get hsz hj
  have hcell := (cells_get (hget i xs h1)).2 k u h2
  have hs : ad.spot = none := by
    have hpos : 0 < xss.flatten.length := by have := (List.getElem?_eq_some_iff.1 hj).1; omega
    obtain ⟨i0, xs0, k0, g1, g2, g3⟩ := flat_get hsz (List.getElem?_eq_getElem hpos)
    have hc0 := (cells_get (hget i0 xs0 g1)).2 k0 _ g2
    have e0 : i0 * size = 0 := by omega
    have e1 : k0 = 0 := by omega
    rw [e0, e1] at hc0
    have e2 : (ad.add 0).add 0 = ad := by simp [Addr.add]
    rw [e2] at hc0
    exact spot_none hc0
  refine ⟨hs, ?_⟩
  obtain ⟨b, off, spt⟩ := ad
  cases hs
  rw [Addr.add_lit, Addr.add_lit, Nat.add_assoc] at hcell
  exact hcell

/-- A slice of structs: each opened by hel. -/
theorem open_rows {α : Type} {t e : TypeId} {size : Nat} (cel : α → List Value) (Q : α → Prop) {a : Option Addr} {len cap : Nat} {x : DataW H} {p : List MemPlace} (ht : P.underlying t = some (.slice e)) (hc : P.cellsOf e = size) (hb : 0 < P.bytesOf e)
    (hel : ∀ (n : Nat) (cs : List Value) (d : DataW H × List MemPlace), DataW.trod enc P w base sp held n e cs = some d → (∀ k ∈ d.1.weights P e, k ≤ reachBytes) → ∃ a : α, cs = cel a ∧ Q a)
    (hs : ∀ n ∈ x.weights P t, n ≤ reachBytes) (h : DataW.Trod enc P w base sp held t (.slice a len cap) x p) : ∃ xs : List α, xs.length = len ∧ len ≤ reachBytes ∧ (∀ x ∈ xs, Q x) ∧ Rd w size (.slice a len cap) len (xs.map cel).flatten := by
  obtain ⟨fuel, h⟩ := h
  have hlen := sliceLen ht hb h hs
  rcases Go.Deep.open_slice ht h with ⟨hcs, _⟩ | ⟨ad, l, c, m, n, D, Pl, hcs, _, hl, hm, hmm, hxx, hi⟩
  · simp [Value.cells] at hcs
    obtain ⟨rfl, rfl, rfl⟩ := hcs
    exact ⟨[], rfl, Nat.zero_le _, (fun xs hx => nomatch hx), Rd.nil _ _⟩
  · simp [Value.cells] at hcs
    obtain ⟨rfl, rfl, rfl⟩ := hcs
    have hml : len ≤ m := by rw [hmm]; split <;> omega
    have key : ∀ i, i < len → ∃ y : α, w.cells? base (ad.add (i * size)) size = some (cel y) ∧ Q y := by
      intro i hlt
      obtain ⟨cs', h1, h2⟩ := hi i (by omega)
      rw [hc] at h1
      obtain ⟨y, rfl, hq⟩ := hel _ cs' (D i, Pl i) h2 (fun k hk => hs k (by
        have hx : x = .slice ((List.range len).map D) ((List.range (m - len)).map fun j => D (len + j)) := congrArg Prod.fst hxx
        rw [hx]
        simp only [DataW.weights, ht]
        exact List.mem_cons.2 (.inr (List.mem_append.2 (.inl (weightsAll_mem (List.mem_map.2 ⟨i, List.mem_range.2 hlt, rfl⟩) hk))))))
      exact ⟨y, h1, hq⟩
    have build : ∀ k, k ≤ len → ∃ xs : List α, xs.length = k ∧ ∀ i y, xs[i]? = some y → w.cells? base (ad.add (i * size)) size = some (cel y) ∧ Q y := by
      intro k
      induction k with
      | zero => exact fun _ => ⟨[], rfl, fun i y h => by simp at h⟩
      | succ k ih =>
        intro hk
        obtain ⟨xs, h1, h2⟩ := ih (by omega)
        obtain ⟨y, h3, h4⟩ := key k (by omega)
        refine ⟨xs ++ [y], by simp [h1], fun i z hz => ?_⟩
        by_cases hik : i < xs.length
        · rw [List.getElem?_append_left hik] at hz; exact h2 i z hz
        · rw [List.getElem?_append_right (by omega)] at hz
          have : i = k := by
            have := (List.getElem?_eq_some_iff.1 hz).1
            simp at this; omega
          subst this
          rw [h1] at hz
          simp at hz
          subst hz
          exact ⟨h3, h4⟩
    obtain ⟨xs, h1, h2⟩ := build len (Nat.le_refl _)
    refine ⟨xs, h1, hlen, fun y hy => ?_, rd_chunks (base := base) hl hm (fun ys hys => ?_) (by simp [h1]) (fun i ys hiy => ?_)⟩
    · obtain ⟨i, hi⟩ := List.getElem?_of_mem hy
      exact (h2 i y hi).2
    · obtain ⟨y, hy, rfl⟩ := List.mem_map.1 hys
      obtain ⟨i, hi⟩ := List.getElem?_of_mem hy
      exact (cells_get (h2 i y hi).1).1
    · rw [List.getElem?_map] at hiy
      cases hq : xs[i]? with
      | none => simp [hq] at hiy
      | some y => simp [hq] at hiy; subst hiy; exact (h2 i y hq).1
end
theorem step_drop {cs : List Value} (i c : Nat) (a : List Value) (ha : (cs.drop i).take c = a) : cs.drop i = a ++ cs.drop (i + c) := by
  rw [← ha, ← List.drop_drop, List.take_append_drop]
theorem wf_u64' {n : Int} (h : (Lit.int .u64 n).wf = true) : 0 ≤ n ∧ n < 18446744073709551616 := by
  rw [Lit.wf_int_iff] at h; have e1 : IntKind.u64.min = 0 := by decide
  have e2 : IntKind.u64.max = 18446744073709551615 := by decide
  rw [e1, e2] at h; omega
theorem wf_i64' {n : Int} (h : (Lit.int .i64 n).wf = true) : -9223372036854775808 ≤ n ∧ n ≤ 9223372036854775807 := by
  rw [Lit.wf_int_iff] at h; have e1 : IntKind.i64.min = -9223372036854775808 := by decide
  have e2 : IntKind.i64.max = 9223372036854775807 := by decide
  rw [e1, e2] at h; omega
end Go.Proofs.YtfobhdmhjjafcaaGreatDoorRR
