/- Many owned resources, as one: taken apart, put together. General lemmas of this claim's own, about no program in particular. -/
import Derived.Test.YtcplbkbimpiioaaGreatDoorLibR
namespace Go.Proofs.YtcplbkbimpiioaaGreatDoor
open Go Go.RowKit
/-- Many, each apart from each other, as one. -/
def allR (A : List Res) : Res where
  fp := (fpL A).rd
  wr := (fpL A).wr
  sub := fun k ⟨r, hr, hk⟩ => ⟨r, hr, r.sub k hk⟩
  ok := fun w => (∀ r ∈ A, r.ok w) ∧ A.Pairwise (fun r s => (∀ k, r.wr k → s.fp k → False) ∧ (∀ k, r.fp k → s.wr k → False))
  lt := fun w h k ⟨r, hr, hk⟩ => r.lt w (h.1 r hr) k hk
  st := fun w w' D h hc hd => ⟨fun r hr => r.st w w' D (h.1 r hr) hc fun k hk => hd k ⟨r, hr, hk⟩, h.2⟩
theorem OK.unall {w0 : World} {S : Pm} {A F : List Res} {w : World} (h : OK w0 S (allR A :: F) w) : OK w0 S (A ++ F) w := by
  have hd := List.pairwise_cons.1 h.dis
  have ha := h.all (allR A) List.mem_cons_self
  refine ⟨h.chg, ?_, ?_, ?_, ?_⟩
  · intro r hr
    rcases List.mem_append.1 hr with hr | hr
    · exact ha.1 r hr
    · exact h.all r (List.mem_cons_of_mem _ hr)
  · intro r hr k hk
    rcases List.mem_append.1 hr with hr | hr
    · exact h.loc (allR A) List.mem_cons_self k ⟨r, hr, hk⟩
    · exact h.loc r (List.mem_cons_of_mem _ hr) k hk
  · intro r hr k hk
    rcases List.mem_append.1 hr with hr | hr
    · exact h.locF (allR A) List.mem_cons_self k ⟨r, hr, hk⟩
    · exact h.locF r (List.mem_cons_of_mem _ hr) k hk
  · exact List.pairwise_append.2 ⟨ha.2, hd.2, fun r hr s hs => ⟨fun k hk hk2 => (hd.1 s hs).1 k ⟨r, hr, hk⟩ hk2, fun k hk hk2 => (hd.1 s hs).2 k ⟨r, hr, hk⟩ hk2⟩⟩
theorem OK.toall {w0 : World} {S : Pm} {A F : List Res} {w : World} (h : OK w0 S (A ++ F) w) : OK w0 S (allR A :: F) w := by
  have hd := List.pairwise_append.1 h.dis
  refine ⟨h.chg, ?_, ?_, ?_, ?_⟩
  · intro r hr
    rcases List.mem_cons.1 hr with rfl | hr
    · exact ⟨fun s hs => h.all s (List.mem_append_left _ hs), hd.1⟩
    · exact h.all r (List.mem_append_right _ hr)
  · intro r hr k hk
    rcases List.mem_cons.1 hr with rfl | hr
    · obtain ⟨s, hs, hk⟩ := hk
      exact h.loc s (List.mem_append_left _ hs) k hk
    · exact h.loc r (List.mem_append_right _ hr) k hk
  · intro r hr k hk
    rcases List.mem_cons.1 hr with rfl | hr
    · obtain ⟨s, hs, hk⟩ := hk
      exact h.locF s (List.mem_append_left _ hs) k hk
    · exact h.locF r (List.mem_append_right _ hr) k hk
  · refine List.pairwise_cons.2 ⟨fun s hs => ⟨?_, ?_⟩, hd.2.1⟩
    · rintro k ⟨r, hr, hk⟩ hk2
      exact (hd.2.2 r hr s hs).1 k hk hk2
    · rintro k ⟨r, hr, hk⟩ hk2
      exact (hd.2.2 r hr s hs).2 k hk hk2
section
variable {α : Type} {f : α → Res} {w0 : World} {S : Pm} {F H : List Res} {w : World} {l : List α} {i : Nat} {x : α}
theorem map_erase_perm (h : l[i]? = some x) : (l.map f).Perm (f x :: (l.eraseIdx i).map f) := by
  obtain ⟨hi, rfl⟩ := List.getElem?_eq_some_iff.1 h
  have e : l = l.take i ++ l[i] :: l.drop (i + 1) := by rw [← List.drop_eq_getElem_cons hi, List.take_append_drop]
  rw [List.eraseIdx_eq_take_drop_succ]
  conv => lhs; rw [e]
  rw [List.map_append, List.map_cons, List.map_append]
  exact List.perm_middle
/-- One of many is taken out. -/
theorem OK.allOut (h : OK w0 S H w) (t : Take1 H (allR (l.map f)) F) (hx : l[i]? = some x) : OK w0 S (f x :: allR ((l.eraseIdx i).map f) :: F) w := by
  have h1 := (h.perm t.perm).unall
  have h2 : OK w0 S ((l.eraseIdx i).map f ++ (f x :: F)) w := h1.perm (((map_erase_perm (f := f) hx).append_right F).trans (List.perm_middle (l₁ := (l.eraseIdx i).map f)).symm)
  exact h2.toall.perm (List.Perm.swap _ _ _)
/-- One is put in its place. -/
theorem OK.allIn (h : OK w0 S H w) (t : TakeL H [f x, allR ((l.eraseIdx i).map f)] F) (hi : i < l.length) : OK w0 S (allR ((l.set i x).map f) :: F) w := by
  have h1 := h.perm t.perm
  have h2 : OK w0 S (allR ((l.eraseIdx i).map f) :: (f x :: F)) w := h1.perm (List.Perm.swap _ _ _)
  have h3 := h2.unall
  have he : (l.set i x)[i]? = some x := List.getElem?_set_self hi
  have e2 : (l.set i x).eraseIdx i = l.eraseIdx i := List.eraseIdx_set_eq
  have hp := map_erase_perm (f := f) he
  rw [e2] at hp
  exact (h3.perm ((List.perm_middle (l₁ := (l.eraseIdx i).map f)).trans (hp.symm.append_right F))).toall
/-- It is put back as it was. -/
theorem OK.allBack (h : OK w0 S H w) (t : TakeL H [f x, allR ((l.eraseIdx i).map f)] F) (hx : l[i]? = some x) : OK w0 S (allR (l.map f) :: F) w := by
  obtain ⟨hi, he⟩ := List.getElem?_eq_some_iff.1 hx
  have h2 := h.allIn t hi
  rwa [← he, List.set_getElem_self] at h2
/-- One more, at the end. -/
theorem OK.allMore (h : OK w0 S H w) (t : TakeL H [f x, allR (l.map f)] F) : OK w0 S (allR ((l ++ [x]).map f) :: F) w := by
  have h1 := h.perm t.perm
  have h2 : OK w0 S (allR (l.map f) :: (f x :: F)) w := h1.perm (List.Perm.swap _ _ _)
  have h3 := h2.unall
  rw [List.map_append]
  refine OK.toall ?_
  rw [List.append_assoc]
  exact h3
/-- None. -/
theorem OK.allNil (h : OK w0 S H w) : OK w0 S (allR (([] : List α).map f) :: H) w := OK.toall (A := []) h
end
/-- One of many that are only read. -/
theorem OK.roPick {w0 : World} {S : Pm} {A F H : List Res} {w : World} {r : Res} (h : OK w0 S H w) (t : Take1 H (roR (allR A)) F) (hr : r ∈ A) : OK w0 S (roR r :: F) w := by
  have h1 := h.perm t.perm
  have hd := List.pairwise_cons.1 h1.dis
  refine ⟨h1.chg, ?_, ?_, ?_, List.pairwise_cons.2 ⟨fun s hs => ⟨fun k hk => hk.elim, fun k hk hk2 => (hd.1 s hs).2 k ⟨r, hr, hk⟩ hk2⟩, hd.2⟩⟩
  · intro s hs
    rcases List.mem_cons.1 hs with rfl | hs
    · exact (h1.all _ List.mem_cons_self).1 r hr
    · exact h1.all s (List.mem_cons_of_mem _ hs)
  · intro s hs k hk
    rcases List.mem_cons.1 hs with rfl | hs
    · exact hk.elim
    · exact h1.loc s (List.mem_cons_of_mem _ hs) k hk
  · intro s hs k hk
    rcases List.mem_cons.1 hs with rfl | hs
    · exact h1.locF _ List.mem_cons_self k ⟨r, hr, hk⟩
    · exact h1.locF s (List.mem_cons_of_mem _ hs) k hk
end Go.Proofs.YtcplbkbimpiioaaGreatDoor
