/- What is owned, lent to one that only reads, and given back when that is done. General lemmas of this claim's own, about no program in particular. -/
import Derived.Test.YtnlibngncicobaaLibZ
namespace Go.Proofs.Ytnlibngncicobaa
open Go Go.RowKit
/-- A call that only reads what it gets, and hands back nothing: all is as it was. -/
theorem Fn.keep {P : Program} {f : FuncId} {vs : List Value} {A : List Res} {w : World} {α : Type} {Φ : α → Prop} {v : α → Value}
    (h : OK w (fpL (A.map roR)) (A.map roR) w → Fn P f vs (A.map roR) w Φ v (fun _ => [])) (hw : OK w (fpL A) A w) : Fn P f vs A w Φ v (fun _ => A) := by
  refine Calls.mono (h hw.freeze.here) ?_
  rintro e w' ⟨x, h1, h2, h3⟩
  have nowr : ∀ k, ¬ (fpL (A.map roR)).wr k := by
    rintro k ⟨r, hr, hk⟩
    obtain ⟨s, _, rfl⟩ := List.mem_map.1 hr
    exact hk.elim
  exact ⟨x, h1, h2, hw.ext (h3.chg.mono (fun k _ hk => nowr k hk))⟩
/-- .. and hands back new ones. -/
theorem Fn.keepN {P : Program} {f : FuncId} {vs : List Value} {A : List Res} {w : World} {α : Type} {Φ : α → Prop} {v : α → Value} {B : α → List Res} (hB : ∀ x, ∀ s ∈ B x, ∀ k, s.fp k → s.wr k)
    (h : OK w (fpL (A.map roR)) (A.map roR) w → Fn P f vs (A.map roR) w Φ v B) (hw : OK w (fpL A) A w) : Fn P f vs A w Φ v (fun x => B x ++ A) := by
  refine Calls.mono (h hw.freeze.here) ?_
  rintro e w' ⟨x, h1, h2, h3⟩
  have nowr : ∀ k, ¬ (fpL (A.map roR)).wr k := by
    rintro k ⟨r, hr, hk⟩
    obtain ⟨s, _, rfl⟩ := List.mem_map.1 hr
    exact hk.elim
  have hH := hw.ext (h3.chg.mono (fun k _ hk => nowr k hk))
  have new : ∀ s ∈ B x, ∀ k, s.fp k → w.heap.size ≤ k := fun s hs k hk => Nat.le_of_not_lt fun hlt => nowr k (h3.loc s hs k (hB x s hs k hk) hlt)
  refine ⟨x, h1, h2, hH.chg, ?_, ?_, ?_, List.pairwise_append.2 ⟨h3.dis, hH.dis, fun s hs t ht => ⟨fun k hk htk => ?_, fun k hk htk => ?_⟩⟩⟩
  · intro s hs
    rcases List.mem_append.1 hs with hs | hs
    · exact h3.all s hs
    · exact hH.all s hs
  · intro s hs k hk hlt
    rcases List.mem_append.1 hs with hs | hs
    · have := new s hs k (s.sub k hk); omega
    · exact hH.loc s hs k hk hlt
  · intro s hs k hk hlt
    rcases List.mem_append.1 hs with hs | hs
    · have := new s hs k hk; omega
    · exact hH.locF s hs k hk hlt
  · have := new s hs k (s.sub k hk)
    have := t.lt w (hw.all t ht) k htk
    omega
  · have := new s hs k hk
    have := t.lt w (hw.all t ht) k (t.sub k htk)
    omega
end Go.Proofs.Ytnlibngncicobaa
