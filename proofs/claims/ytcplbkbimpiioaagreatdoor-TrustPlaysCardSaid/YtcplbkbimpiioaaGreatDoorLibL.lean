/- Slices of structs that came in, whose fields are flat or slices: opened row by row, with their sizes. -/
import Derived.Test.YtcplbkbimpiioaaGreatDoorLibM
import Derived.Test.YtcplbkbimpiioaaGreatDoorLibX
namespace Go.Proofs.YtcplbkbimpiioaaGreatDoor
open Go Go.RowKit

section
variable {P : Program} {w : World} {base : Nat} {sp : Nat → Bool} {held : Bool} {H : Type} {enc : TypeId × Value → H}

theorem open_fieldAtL {t ft : TypeId} {i off c fuel : Nat} {cs : List Value} {x : DataW H × List MemPlace} (hf : fieldAt P t i = some (ft, off, c)) (h : DataW.trod enc P w base sp held fuel t cs = some x) :
    cs.length = P.cellsOf t ∧ ∃ m y, DataW.trod enc P w base sp held m ft ((cs.drop off).take c) = some y ∧ ∀ n ∈ y.1.weights P ft, n ∈ x.1.weights P t := by
  unfold fieldAt at hf
  split at hf
  · rename_i fs hu
    obtain ⟨xs, m, rfl, hx, hl, hxl, hi⟩ := DataW.trod_struct hu h
    refine ⟨hl, ?_⟩
    cases hq : fs[i]? with
    | none => simp [hq] at hf
    | some f =>
      simp only [hq, Option.map_some, Option.some.injEq, Prod.mk.injEq] at hf
      obtain ⟨rfl, rfl, rfl⟩ := hf
      have h1 := hi i f hq
      have hlt : i < xs.length := by
        have := (Array.getElem?_eq_some_iff.1 hq).1
        omega
      rw [List.getElem?_eq_getElem hlt] at h1
      refine ⟨m, _, h1, fun n hn => ?_⟩
      rw [hx]
      simp only [DataW.weights, hu]
      refine DataW.weights_mem_each (j := i) (t := f.type) (d := (xs[i]).1) ?_ ?_ n hn
      · rw [List.getElem?_map]; simp [hq]
      · rw [List.getElem?_map, List.getElem?_eq_getElem hlt]; rfl
  · cases hf
theorem open_fieldFL {t ft : TypeId} {i off c d fuel : Nat} {ks : List Leaf} {cs : List Value} {x : DataW H × List MemPlace} (hf : fieldAt P t i = some (ft, off, c)) (hk : flatT P d ft = some ks) (h : DataW.trod enc P w base sp held fuel t cs = some x) :
    Fits1 ks ((cs.drop off).take c) := by
  obtain ⟨_, m, y, hy, _⟩ := open_fieldAtL hf h
  exact trod_flat d hk hy
theorem rd_chunks {size len cap : Nat} {ad : Addr} {xss : List (List Value)} (hl : len ≤ cap) (hm : cap ≤ maxLen) (hsz : ∀ xs ∈ xss, xs.length = size) (hlen : xss.length = len) (hget : ∀ i xs, xss[i]? = some xs → w.cells? base (ad.add (i * size)) size = some xs) : Rd w size (.slice (some ad) len cap) len xss.flatten := by
  refine ⟨by rw [flat_len hsz, hlen], .inr ⟨ad, cap, rfl, hl, hm, fun j u hj => ?_⟩⟩
  obtain ⟨i, xs, k, h1, h2, rfl⟩ := flat_get hsz hj
  have hcell := (cells_get (hget i xs h1)).2 k u h2
  have hs : ad.spot = none := by
    have hpos : 0 < xss.flatten.length := by have := (List.getElem?_eq_some_iff.1 hj).1; omega
    obtain ⟨i0, xs0, k0, g1, g2, g3⟩ := flat_get hsz (List.getElem?_eq_getElem hpos)
    have hc0 := (cells_get (hget i0 xs0 g1)).2 k0 _ g2
    have e0 : i0 * size = 0 := by omega
    have e1 : k0 = 0 := by omega
    rw [e0, e1] at hc0
    have e2 : (ad.add 0).add 0 = ad := by simp [Addr.add]
    rw [e2] at hc0
    exact spot_none hc0
  refine ⟨hs, ?_⟩
  obtain ⟨b, off, spt⟩ := ad
  cases hs
  rw [Addr.add_lit, Addr.add_lit, Nat.add_assoc] at hcell
  exact hcell

end
theorem step_drop {cs : List Value} (i c : Nat) (a : List Value) (ha : (cs.drop i).take c = a) : cs.drop i = a ++ cs.drop (i + c) := by
  rw [← ha, ← List.drop_drop, List.take_append_drop]
end Go.Proofs.YtcplbkbimpiioaaGreatDoor
