/- Loops whose rounds hold ranges over functions: each leaves a mark behind. General lemmas of this claim's own, about no program in particular. -/
import Derived.Test.YtcplbkbimpiioaaGreatDoorLibJ
namespace Go.Proofs.YtcplbkbimpiioaaGreatDoor
open Go Go.RowKit
section
variable {c : Cx} {Q : SQ} {env : Env} {ds : List Deferred} {H : List Res}
theorem WC.loopM {k : Code} {α : Type} (I : α → Env) (R : α → List Res) (dd : α → List Deferred) (ok : α → Prop) (μ : α → Nat) (x0 : α) (h0 : ok x0) (hds : ds = dd x0) (hf : Fits (I x0) (R x0) env H)
    (round : ∀ x, ok x → WC c k (thenS (fun env' ds' H' => ∃ y, ds' = dd y ∧ ok y ∧ μ y < μ x ∧ Fits (I y) (R y) env' H') Q) (I x) (dd x) (R x)) : WC c (.loop k) Q env ds H := by
  subst hds
  refine ⟨fun a w ha hw => ?_⟩
  have key : ∀ (x : α) a w, ok x → Has (I x) c.n (dd x) a → OK c.w0 c.S (R x) w → (Code.loop k).wpIn (FW c.ro) 0 c.P (up c Q) a w := by
    intro x a w hx ha hw
    refine wpIn_loop (fun a w => ∃ x, ok x ∧ Has (I x) c.n (dd x) a ∧ OK c.w0 c.S (R x) w) (fun a w => Classical.epsilon (fun m => ∃ x, ok x ∧ Has (I x) c.n (dd x) a ∧ OK c.w0 c.S (R x) w ∧ μ x = m ∧ ∀ y, ok y → Has (I y) c.n (dd y) a → OK c.w0 c.S (R y) w → m ≤ μ y)) ⟨x, hx, ha, hw⟩ ?_
    have hmin : ∀ a w, (∃ x, ok x ∧ Has (I x) c.n (dd x) a ∧ OK c.w0 c.S (R x) w) → ∃ m, ∃ x, ok x ∧ Has (I x) c.n (dd x) a ∧ OK c.w0 c.S (R x) w ∧ μ x = m ∧ ∀ y, ok y → Has (I y) c.n (dd y) a → OK c.w0 c.S (R y) w → m ≤ μ y := by
      intro a w ⟨x, h1, h2, h3⟩
      generalize hm : μ x = m
      induction m using Nat.strongRecOn generalizing x with
      | _ m ih =>
        by_cases hh : ∃ y, ok y ∧ Has (I y) c.n (dd y) a ∧ OK c.w0 c.S (R y) w ∧ μ y < m
        · obtain ⟨y, g1, g2, g3, g4⟩ := hh
          exact ih (μ y) g4 y g1 g2 g3 rfl
        · refine ⟨m, x, h1, h2, h3, hm, fun y g1 g2 g3 => ?_⟩
          apply Nat.le_of_not_lt
          intro g4
          exact hh ⟨y, g1, g2, g3, g4⟩
    intro a w hI
    obtain ⟨x, h1, h2, h3, h4, h5⟩ := Classical.epsilon_spec (hmin a w hI)
    refine Go.wpIn_mono ((round x h1).run a w h2 h3) ?_
    rintro e a' w' ⟨h0, env', ds', H', g1, g2, g3⟩
    cases e with
    | normal =>
      obtain ⟨y, rfl, k1, k2, ⟨k3, F, k4⟩⟩ := g3
      have hI' : ∃ x, ok x ∧ Has (I x) c.n (dd x) a' ∧ OK c.w0 c.S (R x) w' := ⟨y, k1, g1.sub k3, (g2.perm k4.perm).left⟩
      refine ⟨hI', ?_⟩
      obtain ⟨x', _, _, _, _, l5⟩ := Classical.epsilon_spec (hmin a' w' hI')
      have := l5 y k1 (g1.sub k3) (g2.perm k4.perm).left
      omega
    | exit i => exact ⟨h0, _, _, _, g1, g2, g3⟩
    | goto l => exact ⟨h0, _, _, _, g1, g2, g3⟩
    | ret => exact ⟨h0, _, _, _, g1, g2, g3⟩
    | panic ch => exact h0.elim
    | outgrown => exact h0.elim
  obtain ⟨hs, F, ht⟩ := hf
  exact key x0 a w h0 (ha.sub hs) (hw.perm ht.perm).left
end
section
variable {c : Cx} {Q : SQ} {env : Env} {ds : List Deferred} {H : List Res}
end
/-- The marks that were left so far. -/
def markR (Dl : List Nat) : Res where
  fp := fun k => k ∈ Dl
  wr := fun k => k ∈ Dl
  sub := fun _ h => h
  ok := fun w => Dl.Nodup ∧ ∀ D ∈ Dl, w.heap[D]? = some (.deferred (some []))
  lt := fun w h k hk => lt_of_heap (h.2 k hk)
  st := fun w w' D h hc hd => ⟨h.1, fun k hk => hc.heap (h.2 k hk) (hd k hk)⟩
section
variable {w0 w : World} {S : Pm} {H F F2 : List Res} {Dl : List Nat} {D : Nat}
theorem OK.mark0 (h : OK w0 S H w) : OK w0 S (markR [] :: H) w := by
  refine OK.upd (A := []) (B := [markR []]) (F := H) h ?_
  exact OK.one (Chg.refl _ _) ⟨List.nodup_nil, fun _ h => nomatch h⟩ (fun k hk => nomatch hk) (fun k hk => nomatch hk)
theorem OK.markAdd (h : OK w0 S H w) (t1 : Take1 H (objR D (.deferred (some []))) F) (t2 : Take1 F (markR Dl) F2) : OK w0 S (markR (D :: Dl) :: F2) w := by
  have h1 : OK w0 S ([objR D (.deferred (some [])), markR Dl] ++ F2) w := h.perm (t1.perm.trans (List.Perm.cons _ t2.perm))
  have hD := h1.all _ (List.mem_cons_self ..)
  have hM := h1.all (markR Dl) (by simp)
  have hd := (List.pairwise_cons.1 h1.dis).1 (markR Dl) (by simp)
  refine OK.upd (A := [objR D (.deferred (some [])), markR Dl]) (B := [markR (D :: Dl)]) (F := F2) h1 ?_
  refine OK.one (Chg.refl _ _) ⟨List.nodup_cons.2 ⟨fun hm => hd.1 D rfl hm, hM.1⟩, fun k hk => ?_⟩ (fun k hk _ => ?_) (fun k hk _ => ?_)
  · rcases List.mem_cons.1 hk with rfl | hk
    · exact hD
    · exact hM.2 k hk
  · rcases List.mem_cons.1 hk with rfl | hk
    · exact ⟨_, List.mem_cons_self .., rfl⟩
    · exact ⟨markR Dl, by simp, hk⟩
  · rcases List.mem_cons.1 hk with rfl | hk
    · exact ⟨_, List.mem_cons_self .., rfl⟩
    · exact ⟨markR Dl, by simp, hk⟩
def markL (Dl : List Nat) : List Res := Dl.map fun D => objR D (.deferred (some []))
theorem OK.markOut (h : OK w0 S H w) (t : Take1 H (markR Dl) F) : OK w0 S (markL Dl ++ F) w := by
  have h1 : OK w0 S ([markR Dl] ++ F) w := h.perm t.perm
  obtain ⟨hn, hM⟩ := h1.all (markR Dl) (by simp)
  refine OK.upd (A := [markR Dl]) (B := markL Dl) (F := F) h1 ⟨Chg.refl _ _, ?_, ?_, ?_, ?_⟩
  · intro r hr
    obtain ⟨D, hD, rfl⟩ := List.mem_map.1 hr
    exact hM D hD
  · intro r hr k hk _
    obtain ⟨D, hD, rfl⟩ := List.mem_map.1 hr
    cases hk
    exact ⟨markR Dl, by simp, hD⟩
  · intro r hr k hk _
    obtain ⟨D, hD, rfl⟩ := List.mem_map.1 hr
    cases hk
    exact ⟨markR Dl, by simp, hD⟩
  · unfold markL
    refine List.pairwise_map.2 (hn.imp fun hne => ⟨fun k a b => ?_, fun k a b => ?_⟩)
    · cases a; exact hne b.symm
    · cases a; exact hne b.symm
theorem OK.markEnd (h : OK w0 S H w) (t : Take1 H (markR Dl) F) : OK w0 S (F ++ markL Dl) w := (h.markOut t).perm List.perm_append_comm
theorem take_mid {r : Res} {B : List Res} : ∀ A : List Res, Take1 (A ++ r :: B) r (A ++ B)
  | [] => .head
  | _ :: A => .tail (take_mid A)
theorem marks_end : ∀ (Dl : List Nat) (H : List Res), Marks (Dl.map dM) (H ++ markL Dl) H
  | [], H => by rw [show markL [] = [] from rfl, List.append_nil]; exact .nil
  | D :: Dl, H => .cons (take_mid H) (marks_end Dl H)
end
end Go.Proofs.YtcplbkbimpiioaaGreatDoor
