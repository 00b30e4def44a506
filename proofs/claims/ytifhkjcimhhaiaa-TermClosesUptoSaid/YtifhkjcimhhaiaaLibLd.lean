/- What is owned, lent to one that only reads, and given back when that is done. General lemmas of this claim's own, about no program in particular. -/
import Derived.Test.YtifhkjcimhhaiaaLibZ
namespace Go.Proofs.Ytifhkjcimhhaiaa
open Go Go.RowKit
theorem rd_roL (A : List Res) : (fpL (A.map roR)).rd = (fpL A).rd := by
  funext k
  apply propext
  constructor
  · rintro ⟨r, hr, hk⟩
    obtain ⟨s, hs, rfl⟩ := List.mem_map.1 hr
    exact ⟨s, hs, hk⟩
  · rintro ⟨r, hr, hk⟩
    exact ⟨roR r, List.mem_map.2 ⟨r, hr, rfl⟩, hk⟩
def Apart (r s : Res) : Prop := (∀ k, r.wr k → s.fp k → False) ∧ (∀ k, r.fp k → s.wr k → False)
/-- Those of A, while r leans on them. -/
def lendR (A : List Res) (r : Res) : Res where
  fp := fun k => (fpL A).rd k ∨ r.fp k
  wr := fun k => (fpL A).wr k ∨ r.wr k
  sub := fun k h => by
    rcases h with ⟨s, hs, hk⟩ | h
    · exact .inl ⟨s, hs, s.sub k hk⟩
    · exact .inr (r.sub k h)
  ok := fun w => (∀ s ∈ A, s.ok w) ∧ r.ok w ∧ A.Pairwise Apart
  lt := fun w h k hk => by
    rcases hk with ⟨s, hs, hk⟩ | hk
    · exact s.lt w (h.1 s hs) k hk
    · exact r.lt w h.2.1 k hk
  st := fun w w' D h hc hd => ⟨fun s hs => s.st w w' D (h.1 s hs) hc fun k hk => hd k (.inl ⟨s, hs, hk⟩), r.st w w' D h.2.1 hc fun k hk => hd k (.inr hk), h.2.2⟩
/-- A call that only reads what it gets, and hands back one that leans on it. -/
theorem Fn.lend {P : Program} {f : FuncId} {vs : List Value} {A : List Res} {w : World} {α : Type} {Φ : α → Prop} {v : α → Value} {it : α → Res} (hn : ∀ x k, ¬ (it x).wr k)
    (h : OK w (fpL (A.map roR)) (A.map roR) w → Fn P f vs (A.map roR) w Φ v (fun x => [it x])) (hw : OK w (fpL A) A w) : Fn P f vs A w Φ v (fun x => [lendR A (it x)]) := by
  refine Calls.mono (h hw.freeze.here) ?_
  rintro e w' ⟨x, h1, h2, h3⟩
  have nowr : ∀ k, ¬ (fpL (A.map roR)).wr k := by
    rintro k ⟨r, hr, hk⟩
    obtain ⟨s, _, rfl⟩ := List.mem_map.1 hr
    exact hk.elim
  refine ⟨x, h1, h2, h3.chg.mono (fun k _ hk => (nowr k hk).elim), ?_, ?_, ?_, List.pairwise_singleton _ _⟩
  · intro r hr
    rw [List.mem_singleton.1 hr]
    exact ⟨fun s hs => s.st w w' _ (hw.all s hs) h3.chg fun k _ hk => nowr k hk, h3.all _ (List.mem_singleton.2 rfl), hw.dis⟩
  · intro r hr k hk _
    rw [List.mem_singleton.1 hr] at hk
    rcases hk with hk | hk
    · exact hk
    · exact (hn x k hk).elim
  · intro r hr k hk hlt
    rw [List.mem_singleton.1 hr] at hk
    rcases hk with hk | hk
    · exact hk
    · have := h3.locF _ (List.mem_singleton.2 rfl) k hk hlt
      rw [rd_roL] at this
      exact this
/-- A call that takes the one that leans: what was lent is there again. -/
theorem Fn.unlend {P : Program} {f : FuncId} {vs : List Value} {A : List Res} {w : World} {α : Type} {Φ : α → Prop} {v : α → Value} {B : α → List Res} {r : Res} (hn : ∀ k, ¬ r.wr k) (hB : ∀ x, ∀ s ∈ B x, ∀ k, s.fp k → s.wr k)
    (h : OK w (fpL [r]) [r] w → Fn P f vs [r] w Φ v B) (hw : OK w (fpL [lendR A r]) [lendR A r] w) : Fn P f vs [lendR A r] w Φ v (fun x => B x ++ A) := by
  obtain ⟨hA, hr, hd⟩ := hw.all _ (List.mem_singleton.2 rfl)
  have h0 : OK w (fpL [r]) [r] w := ⟨Chg.refl _ _, fun s hs => by rw [List.mem_singleton.1 hs]; exact hr, fun s hs k hk _ => ⟨s, hs, hk⟩, fun s hs k hk _ => ⟨s, hs, hk⟩, List.pairwise_singleton _ _⟩
  refine Calls.mono (h h0) ?_
  rintro e w' ⟨x, h1, h2, h3⟩
  have nowr : ∀ k, ¬ (fpL [r]).wr k := by
    rintro k ⟨s, hs, hk⟩
    rw [List.mem_singleton.1 hs] at hk
    exact hn k hk
  have new : ∀ s ∈ B x, ∀ k, s.fp k → w.heap.size ≤ k := fun s hs k hk => Nat.le_of_not_lt fun hlt => nowr k (h3.loc s hs k (hB x s hs k hk) hlt)
  refine ⟨x, h1, h2, h3.chg.mono (fun k _ hk => (nowr k hk).elim), ?_, ?_, ?_, List.pairwise_append.2 ⟨h3.dis, hd, fun s hs t ht => ⟨fun k hk htk => ?_, fun k hk htk => ?_⟩⟩⟩
  · intro s hs
    rcases List.mem_append.1 hs with hs | hs
    · exact h3.all s hs
    · exact s.st w w' _ (hA s hs) h3.chg fun k _ hk => nowr k hk
  · intro s hs k hk hlt
    rcases List.mem_append.1 hs with hs | hs
    · have := new s hs k (s.sub k hk); omega
    · exact ⟨_, List.mem_singleton.2 rfl, .inl ⟨s, hs, hk⟩⟩
  · intro s hs k hk hlt
    rcases List.mem_append.1 hs with hs | hs
    · have := new s hs k hk; omega
    · exact ⟨_, List.mem_singleton.2 rfl, .inl ⟨s, hs, hk⟩⟩
  · have := new s hs k (s.sub k hk)
    have := t.lt w (hA t ht) k htk
    omega
  · have := new s hs k hk
    have := t.lt w (hA t ht) k (t.sub k htk)
    omega
/-- A call that only reads what it gets, and hands back nothing: all is as it was. -/
theorem Fn.keep {P : Program} {f : FuncId} {vs : List Value} {A : List Res} {w : World} {α : Type} {Φ : α → Prop} {v : α → Value}
    (h : OK w (fpL (A.map roR)) (A.map roR) w → Fn P f vs (A.map roR) w Φ v (fun _ => [])) (hw : OK w (fpL A) A w) : Fn P f vs A w Φ v (fun _ => A) := by
  refine Calls.mono (h hw.freeze.here) ?_
  rintro e w' ⟨x, h1, h2, h3⟩
  have nowr : ∀ k, ¬ (fpL (A.map roR)).wr k := by
    rintro k ⟨r, hr, hk⟩
    obtain ⟨s, _, rfl⟩ := List.mem_map.1 hr
    exact hk.elim
  exact ⟨x, h1, h2, hw.ext (h3.chg.mono (fun k _ hk => nowr k hk))⟩
/-- .. and hands back new ones. -/
theorem Fn.keepN {P : Program} {f : FuncId} {vs : List Value} {A : List Res} {w : World} {α : Type} {Φ : α → Prop} {v : α → Value} {B : α → List Res} (hB : ∀ x, ∀ s ∈ B x, ∀ k, s.fp k → s.wr k)
    (h : OK w (fpL (A.map roR)) (A.map roR) w → Fn P f vs (A.map roR) w Φ v B) (hw : OK w (fpL A) A w) : Fn P f vs A w Φ v (fun x => B x ++ A) := by
  refine Calls.mono (h hw.freeze.here) ?_
  rintro e w' ⟨x, h1, h2, h3⟩
  have nowr : ∀ k, ¬ (fpL (A.map roR)).wr k := by
    rintro k ⟨r, hr, hk⟩
    obtain ⟨s, _, rfl⟩ := List.mem_map.1 hr
    exact hk.elim
  have hH := hw.ext (h3.chg.mono (fun k _ hk => nowr k hk))
  have new : ∀ s ∈ B x, ∀ k, s.fp k → w.heap.size ≤ k := fun s hs k hk => Nat.le_of_not_lt fun hlt => nowr k (h3.loc s hs k (hB x s hs k hk) hlt)
  refine ⟨x, h1, h2, hH.chg, ?_, ?_, ?_, List.pairwise_append.2 ⟨h3.dis, hH.dis, fun s hs t ht => ⟨fun k hk htk => ?_, fun k hk htk => ?_⟩⟩⟩
  · intro s hs
    rcases List.mem_append.1 hs with hs | hs
    · exact h3.all s hs
    · exact hH.all s hs
  · intro s hs k hk hlt
    rcases List.mem_append.1 hs with hs | hs
    · have := new s hs k (s.sub k hk); omega
    · exact hH.loc s hs k hk hlt
  · intro s hs k hk hlt
    rcases List.mem_append.1 hs with hs | hs
    · have := new s hs k hk; omega
    · exact hH.locF s hs k hk hlt
  · have := new s hs k (s.sub k hk)
    have := t.lt w (hw.all t ht) k htk
    omega
  · have := new s hs k hk
    have := t.lt w (hw.all t ht) k (t.sub k htk)
    omega
end Go.Proofs.Ytifhkjcimhhaiaa
