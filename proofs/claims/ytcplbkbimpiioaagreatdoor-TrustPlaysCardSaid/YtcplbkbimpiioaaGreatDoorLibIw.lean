/- An iterator that only reads what it is lent: it hands all of it back. General lemmas of this claim's own, about no program in particular. -/
import Derived.Test.YtcplbkbimpiioaaGreatDoorLibG
namespace Go.Proofs.YtcplbkbimpiioaaGreatDoor
open Go Go.RowKit
theorem rd_ro (A : List Res) : (fpL (A.map roR)).rd = (fpL A).rd := by
  funext k
  apply propext
  constructor
  · rintro ⟨r, hr, hk⟩
    obtain ⟨s, hs, rfl⟩ := List.mem_map.1 hr
    exact ⟨s, hs, hk⟩
  · rintro ⟨r, hr, hk⟩
    exact ⟨roR r, List.mem_map.2 ⟨r, hr, rfl⟩, hk⟩
theorem iterW_of_iter {P : Program} {gf : Nat} {lb : Array Value} {A : List Res} {xs : List (Array Value)} (h : ∀ W, OK W (fpL (A.map roR)) (A.map roR) W → Iter P gf lb (fpL (A.map roR)).rd xs W) : IterW P gf lb A xs A (fun _ => A) := by
  intro l T0 J Jx W hA hT0 hJ hJx hY h00
  have hI := h W hA.freeze.here
  rw [rd_ro] at hI
  have hlt : ∀ k, (fpL A).rd k → k < W.heap.size := fun k ⟨r, hr, hk⟩ => r.lt W (hA.all r hr) k hk
  have st : ∀ (T : Nat → Prop) (X Y : World), (∀ k, T k → ¬ (fpL A).rd k) → (∀ r ∈ A, r.ok X) → Chg T X Y → ∀ r ∈ A, r.ok Y := fun T X Y hT hX hc r hr => r.st X Y T (hX r hr) hc (fun k hk hTk => hT k hTk ⟨r, hr, hk⟩)
  refine (hI l T0 (fun i T X => J i T X ∧ (∀ k, T k → ¬ (fpL A).rd k) ∧ ∀ r ∈ A, r.ok X) (fun i T X => Jx i T X ∧ ∀ r ∈ A, r.ok X) W (Chg.refl _ _) hlt hT0 ?_ ?_ ?_ ⟨h00, fun k hk => (hT0 k hk).2, hA.all⟩).mono ?_
  · rintro i T X Y ⟨h1, h2, h3⟩ hc
    exact ⟨hJ _ _ _ _ h1 (hc.mono (fun k _ hk => ⟨.inl hk.1, hk.2⟩)), h2, fun r hr => r.st X Y _ (h3 r hr) hc (fun k hk hD => by
      have := hlt k ⟨r, hr, hk⟩
      have := hD.1
      omega)⟩
  · rintro i T X Y ⟨h1, h3⟩ hc
    exact ⟨hJx _ _ _ _ h1 (hc.mono (fun k _ hk => ⟨.inl hk.1, hk.2⟩)), fun r hr => r.st X Y _ (h3 r hr) hc (fun k hk hD => by
      have := hlt k ⟨r, hr, hk⟩
      have := hD.1
      omega)⟩
  · rintro i x T W1 hx ⟨h1, h2, h3⟩ hs hTs
    refine (hY i x T W1 hx h1 hs hTs).mono ?_
    rintro e W' (⟨rfl, T', k1, k2, k3⟩ | ⟨rfl, T', k1, k2, k3⟩)
    · refine .inl ⟨rfl, T', ⟨k1, fun k hk hr => ?_, st T W1 W' h2 h3 k2⟩, k2, k3⟩
      rcases k3 k hk with h4 | h4
      · exact h2 k h4 hr
      · have := hlt k hr
        omega
    · exact .inr ⟨rfl, T', ⟨k1, st T W1 W' h2 h3 k2⟩, k2, k3⟩
  · rintro e W' ⟨h1, (⟨T, k1, _, k3⟩ | ⟨i, T, hi, k1, k3⟩)⟩
    · exact ⟨h1, .inl ⟨T, k1, k3⟩⟩
    · exact ⟨h1, .inr ⟨i, T, hi, k1, k3⟩⟩
end Go.Proofs.YtcplbkbimpiioaaGreatDoor
