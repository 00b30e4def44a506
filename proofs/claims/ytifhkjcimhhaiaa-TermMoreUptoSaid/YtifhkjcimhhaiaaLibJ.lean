/- An iterator that leans on less while it goes than where it begins: general lemmas of this claim's own, about no program in particular. -/
import Derived.Test.YtifhkjcimhhaiaaLibQ
namespace Go.Proofs.Ytifhkjcimhhaiaa
open Go Go.RowKit

section
variable {P : Program}
end

section
variable {P : Program} {n : Nat} {w0 : World} {S : Pm} {Q : SQ} {env : Env} {ds : List Deferred} {H H2 F : List Res}

end

/-- A world at an iterator's beginning: nothing of it has changed yet. -/
def startR (W : World) (T : Nat → Prop) (hT : ∀ k, T k → k < W.heap.size) : Res where
  fp := fun k => k < W.heap.size
  wr := T
  sub := fun k h => hT k h
  ok := fun w => Chg noB W w
  lt := fun w h k hk => Nat.lt_of_lt_of_le hk h.size
  st := fun w w' D h hc hd => h.trans' hc (fun _ _ e => e) (fun k hk hD => (hd k hk hD).elim)
section
variable {c : Cx} {Q : SQ} {env : Env} {ds : List Deferred} {H F : List Res} {dst : Option Tmp} {ty : TypeId} {pos : String} {af : Array Edge} {g : Option (Nat × Bool)}
theorem OK.begin {w0 : World} {S : Pm} {A : List Res} {w W : World} {gs : Guest} {T0 : Nat → Prop} {hT : ∀ k, T0 k → k < W.heap.size} (h : OK w0 S H w) (tk : Take1 H (startR W T0 hT) F) (hW : gs.W = W) (hJ : gs.J 0 T0 W)
    (hA : OK W (fpL A) A W) (hn : ∀ r ∈ A, ∀ k, ¬ r.wr k) (hd : ∀ k, T0 k → ¬ (fpL A).rd k) : OK w0 S (gstR gs 0 T0 :: (A ++ F)) w := by
  subst hW
  have hc : Chg noB gs.W w := h.get tk
  refine OK.upd (A := [startR gs.W T0 hT]) (B := gstR gs 0 T0 :: A) (F := F) (h.perm tk.perm) ⟨Chg.refl _ _, ?_, ?_, ?_, List.pairwise_cons.2 ⟨fun s hs => ⟨fun k a b => hd k a ⟨s, hs, b⟩, fun k a b => hn s hs k b⟩, hA.dis⟩⟩
  · intro r hr
    rcases List.mem_cons.1 hr with rfl | hr
    · exact ⟨gs.hJ _ _ _ _ hJ (hc.mono (fun k _ hk => hk.elim)), fun k hk => Nat.lt_of_lt_of_le (hT k hk) hc.size, hc.size⟩
    · exact r.st gs.W w _ (hA.all r hr) hc (fun k _ hk => hk.elim)
  · intro r hr k hk _
    rcases List.mem_cons.1 hr with rfl | hr
    · exact ⟨_, List.mem_singleton.2 rfl, hk⟩
    · exact (hn r hr k hk).elim
  · intro r hr k hk _
    rcases List.mem_cons.1 hr with rfl | hr
    · rcases hk with hk | hk
      · exact ⟨_, List.mem_singleton.2 rfl, hT k hk⟩
      · exact ⟨_, List.mem_singleton.2 rfl, hk⟩
    · exact ⟨_, List.mem_singleton.2 rfl, r.lt gs.W (hA.all r hr) k hk⟩
end
section
variable {c : Cx} {Q : SQ} {env : Env} {ds : List Deferred} {H F A : List Res} {ops : Array Oper} {rest : List Oper} {d : Nat} {ty : TypeId} {pos : String} {af : Array Edge}
end
end Go.Proofs.Ytifhkjcimhhaiaa
