/- What is owned, lent to one that only reads, and given back when that is done. General lemmas of this claim's own, about no program in particular. -/
import Derived.Test.YtifhkjcimhhaiaaLibZ
namespace Go.Proofs.Ytifhkjcimhhaiaa
open Go Go.RowKit
/-- A call that only reads what it gets, and hands back nothing: all is as it was. -/
theorem Fn.keep {P : Program} {f : FuncId} {vs : List Value} {A : List Res} {w : World} {α : Type} {Φ : α → Prop} {v : α → Value}
    (h : OK w (fpL (A.map roR)) (A.map roR) w → Fn P f vs (A.map roR) w Φ v (fun _ => [])) (hw : OK w (fpL A) A w) : Fn P f vs A w Φ v (fun _ => A) := by
  refine Calls.mono (h hw.freeze.here) ?_
  rintro e w' ⟨x, h1, h2, h3⟩
  have nowr : ∀ k, ¬ (fpL (A.map roR)).wr k := by
    rintro k ⟨r, hr, hk⟩
    obtain ⟨s, _, rfl⟩ := List.mem_map.1 hr
    exact hk.elim
  exact ⟨x, h1, h2, hw.ext (h3.chg.mono (fun k _ hk => nowr k hk))⟩
end Go.Proofs.Ytifhkjcimhhaiaa
