/- Predicates of many arguments, handed over. General lemmas of this claim's own, about no program in particular. -/
import Derived.Test.YtbgimajbehodnaaGreatDoorLibQ
import Derived.Test.YtbgimajbehodnaaGreatDoorLibZ
namespace Go.Proofs.YtbgimajbehodnaaGreatDoor
open Go Go.RowKit
variable {c : Cx} {H A F : List Res}
/-- A function value that tells p of each good thing (told by values), and changes nothing, whatever becomes of what may be written. -/
structure PredN (P : Program) (w : World) (T : Pm) (f : FuncId) (cap : List Value) {α : Type} (G : α → Prop) (vals : α → List Value) (p : α → Bool) : Prop where
  en : ∀ args w, (callFunc f args).run P w = .ok (.enter f args) w
  gives : ∀ w', Chg T.wr w w' → ∀ x, G x → Fn P f (vals x ++ cap) [] w' (fun _ : Unit => True) (fun _ => .bool (p x)) (fun _ => [])
end Go.Proofs.YtbgimajbehodnaaGreatDoor

namespace Go.Proofs.YtbgimajbehodnaaGreatDoor
open Go Go.RowKit
/-- A call that only reads what it gets, and hands back nothing: all is as it was. -/
theorem Fn.keep {P : Program} {f : FuncId} {vs : List Value} {A : List Res} {w : World} {α : Type} {Φ : α → Prop} {v : α → Value}
    (h : OK w (fpL (A.map roR)) (A.map roR) w → Fn P f vs (A.map roR) w Φ v (fun _ => [])) (hw : OK w (fpL A) A w) : Fn P f vs A w Φ v (fun _ => A) := by
  refine Calls.mono (h hw.freeze.here) ?_
  rintro e w' ⟨x, h1, h2, h3⟩
  have nowr : ∀ k, ¬ (fpL (A.map roR)).wr k := by
    rintro k ⟨r, hr, hk⟩
    obtain ⟨s, _, rfl⟩ := List.mem_map.1 hr
    exact hk.elim
  exact ⟨x, h1, h2, hw.ext (h3.chg.mono (fun k _ hk => nowr k hk))⟩
end Go.Proofs.YtbgimajbehodnaaGreatDoor

namespace Go.Proofs.YtbgimajbehodnaaGreatDoor
open Go Go.RowKit
/-- Many that are only read, as one. -/
def bunR (A : List Res) : Res where
  fp := (fpL A).rd
  wr := noB
  sub := fun _ h => h.elim
  ok := fun w => ∀ r ∈ A, r.ok w
  lt := fun w h k ⟨r, hr, hk⟩ => r.lt w (h r hr) k hk
  st := fun w w' D h hc hd r hr => r.st w w' D (h r hr) hc fun k hk => hd k ⟨r, hr, hk⟩
theorem OK.pick {w0 : World} {S : Pm} {H F A B : List Res} {w : World} (h : OK w0 S H w) (t : Take1 H (bunR A) F) (hs : ∀ r ∈ B, r ∈ A) : OK w0 S (bunR B :: H) w := by
  have h1 := h.dup t (fun _ h => h)
  refine ⟨h1.chg, ?_, ?_, ?_, ?_⟩
  · intro r hr
    rcases List.mem_cons.1 hr with rfl | hr
    · have := h1.all (bunR A) (List.mem_cons_self ..)
      exact fun s hs2 => this s (hs s hs2)
    · exact h.all r hr
  · intro r hr
    rcases List.mem_cons.1 hr with rfl | hr
    · exact fun k hk => hk.elim
    · exact h.loc r hr
  · intro r hr
    rcases List.mem_cons.1 hr with rfl | hr
    · rintro k ⟨s, hs2, hk⟩ hlt
      exact h1.locF (bunR A) (List.mem_cons_self ..) k ⟨s, hs s hs2, hk⟩ hlt
    · exact h.locF r hr
  · have hd := List.pairwise_cons.1 h1.dis
    refine List.pairwise_cons.2 ⟨fun s hs2 => ⟨fun k hk => hk.elim, ?_⟩, hd.2⟩
    rintro k ⟨q, hq, hk⟩ hk2
    exact (hd.1 s hs2).2 k ⟨q, hs q hq, hk⟩ hk2
/-- A bundle, taken apart. -/
theorem OK.unbun {w0 : World} {S : Pm} {H F A : List Res} {w : World} (h : OK w0 S H w) (t : Take1 H (bunR A) F) : OK w0 S (A.map roR ++ F) w := by
  have h1 := h.perm t.perm
  refine ⟨h1.chg, ?_, ?_, ?_, ?_⟩
  · intro r hr
    rcases List.mem_append.1 hr with hr | hr
    · obtain ⟨s, hs, rfl⟩ := List.mem_map.1 hr
      exact h1.all (bunR A) (List.mem_cons_self ..) s hs
    · exact h1.all r (List.mem_cons_of_mem _ hr)
  · intro r hr
    rcases List.mem_append.1 hr with hr | hr
    · obtain ⟨s, hs, rfl⟩ := List.mem_map.1 hr
      exact fun k hk => hk.elim
    · exact h1.loc r (List.mem_cons_of_mem _ hr)
  · intro r hr
    rcases List.mem_append.1 hr with hr | hr
    · obtain ⟨s, hs, rfl⟩ := List.mem_map.1 hr
      exact fun k hk hlt => h1.locF (bunR A) (List.mem_cons_self ..) k ⟨s, hs, hk⟩ hlt
    · exact h1.locF r (List.mem_cons_of_mem _ hr)
  · have hd := List.pairwise_cons.1 h1.dis
    refine List.pairwise_append.2 ⟨?_, hd.2, ?_⟩
    · refine List.pairwise_map.2 (List.pairwise_of_forall fun a b => ⟨fun k hk => hk.elim, fun k _ hk => hk.elim⟩)
    · intro a ha b hb
      obtain ⟨s, hs, rfl⟩ := List.mem_map.1 ha
      exact ⟨fun k hk => hk.elim, fun k hk hk2 => (hd.1 b hb).2 k ⟨s, hs, hk⟩ hk2⟩
/-- Those that are only read, bundled. -/
theorem OK.bun {w0 : World} {S : Pm} {F A : List Res} {w : World} (h : OK w0 S (A.map roR ++ F) w) : OK w0 S (bunR A :: F) w := by
  obtain ⟨_, _, hd3⟩ := List.pairwise_append.1 h.dis
  refine ⟨h.chg, ?_, ?_, ?_, ?_⟩
  · intro r hr
    rcases List.mem_cons.1 hr with rfl | hr
    · exact fun s hs => h.all (roR s) (List.mem_append_left _ (List.mem_map.2 ⟨s, hs, rfl⟩))
    · exact h.all r (List.mem_append_right _ hr)
  · intro r hr
    rcases List.mem_cons.1 hr with rfl | hr
    · exact fun k hk => hk.elim
    · exact h.loc r (List.mem_append_right _ hr)
  · intro r hr
    rcases List.mem_cons.1 hr with rfl | hr
    · rintro k ⟨s, hs, hk⟩ hlt
      exact h.locF (roR s) (List.mem_append_left _ (List.mem_map.2 ⟨s, hs, rfl⟩)) k hk hlt
    · exact h.locF r (List.mem_append_right _ hr)
  · refine List.pairwise_cons.2 ⟨fun s hs => ⟨fun k hk => hk.elim, ?_⟩, (List.pairwise_append.1 h.dis).2.1⟩
    rintro k ⟨q, hq, hk⟩ hk2
    exact (hd3 (roR q) (List.mem_map.2 ⟨q, hq, rfl⟩) s hs).2 k hk hk2
theorem OK.bun2 {w0 : World} {S : Pm} {H F A B : List Res} {w : World} (h : OK w0 S H w) (t : TakeL H [bunR A, bunR B] F) : OK w0 S (bunR (A ++ B) :: F) w := by
  have h1 := h.perm t.perm
  have h2 := (OK.unbun h1 (A := A) (F := bunR B :: F) .head)
  have h3 : OK w0 S (bunR B :: (A.map roR ++ F)) w := h2.perm List.perm_middle
  have h4 := OK.unbun h3 (A := B) (F := A.map roR ++ F) .head
  refine OK.bun ?_
  rw [List.map_append, List.append_assoc]
  refine h4.perm ?_
  rw [← List.append_assoc, ← List.append_assoc]
  exact List.perm_append_comm.append_right F
theorem Fn.imp {P : Program} {f : FuncId} {vs : List Value} {A A' : List Res} {w : World} {α : Type} {Φ : α → Prop} {v : α → Value} {B : α → List Res} (hi : OK w (fpL A) A w → OK w (fpL A') A' w) (hwr : ∀ k, (fpL A').wr k → (fpL A).wr k) (hrd : ∀ k, (fpL A').rd k → (fpL A).rd k)
    (h : OK w (fpL A') A' w → Fn P f vs A' w Φ v B) (hw : OK w (fpL A) A w) : Fn P f vs A w Φ v B :=
  Calls.mono (h (hi hw)) fun e w' ⟨x, h1, h2, h3⟩ => ⟨x, h1, h2, ⟨h3.chg.mono (fun k _ hk => hwr k hk), h3.all, fun r hr k hk hl => hwr k (h3.loc r hr k hk hl), fun r hr k hk hl => hrd k (h3.locF r hr k hk hl), h3.dis⟩⟩
theorem Fn.bun {P : Program} {f : FuncId} {vs : List Value} {A : List Res} {w : World} {α : Type} {Φ : α → Prop} {v : α → Value} {B : α → List Res} (h : OK w (fpL (A.map roR)) (A.map roR) w → Fn P f vs (A.map roR) w Φ v B) (hw : OK w (fpL [bunR A]) [bunR A] w) : Fn P f vs [bunR A] w Φ v B := by
  refine Fn.imp (fun hw => ?_) ?_ ?_ h hw
  · have := OK.unbun hw (A := A) (F := []) .head
    rw [List.append_nil] at this
    exact this.here
  · rintro k ⟨r, hr, hk⟩
    obtain ⟨s, hs, rfl⟩ := List.mem_map.1 hr
    exact hk.elim
  · rintro k ⟨r, hr, hk⟩
    obtain ⟨s, hs, rfl⟩ := List.mem_map.1 hr
    exact ⟨bunR A, List.mem_singleton.2 rfl, s, hs, hk⟩
/-- One that is only read, as a bundle. -/
theorem OK.bunO1 {w0 : World} {S : Pm} {H F : List Res} {w : World} {r : Res} (h : OK w0 S H w) (t : Take1 H r F) : OK w0 S (bunR [r] :: F) w := OK.bun (A := [r]) (h.roOne t)
theorem RdOf.bun {A : List Res} {v : Value} {size n : Nat} {cs : List Value} (h : rdR v size n cs ∈ A) : RdOf (bunR A) v size n cs := ⟨fun _ hk => hk _ h⟩
/-- A function value that tells p of each good thing, by what it leans on, and changes nothing. -/
structure PredB (P : Program) (A : List Res) (f : FuncId) (cap : List Value) {α : Type} (G : α → Prop) (vals : α → List Value) (p : α → Bool) : Prop where
  en : ∀ args w, (callFunc f args).run P w = .ok (.enter f args) w
  gives : ∀ x, G x → ∀ w, OK w (fpL [bunR A]) [bunR A] w → Fn P f (vals x ++ cap) [bunR A] w (fun _ : Unit => True) (fun _ => .bool (p x)) (fun _ => [])
end Go.Proofs.YtbgimajbehodnaaGreatDoor
