/- Iterators whose elements come in an order that is drawn: general lemmas of this claim's own, about no program in particular. -/
import Derived.Test.YtifhkjcimhhaiaaLibJ
namespace Go.Proofs.Ytifhkjcimhhaiaa
open Go Go.RowKit

/-- What an iterator promises whose elements come in some order: J is of the list of those that came. -/
def IterP (P : Program) (gf : Nat) (lb : Array Value) (own : Nat → Prop) (xs : List (Array Value)) (w0 : World) : Prop :=
  ∀ (l : Nat) (T0 : Nat → Prop) (J Jx : List (Array Value) → (Nat → Prop) → World → Prop) (W : World),
    Chg (fun k => ¬ own k) w0 W →
    (∀ k, own k → k < W.heap.size) →
    (∀ k, T0 k → k < W.heap.size ∧ ¬ own k) →
    (∀ i T A B, J i T A → Chg (fun k => W.heap.size ≤ k ∧ ¬ T k) A B → J i T B) →
    (∀ i T A B, Jx i T A → Chg (fun k => W.heap.size ≤ k ∧ ¬ T k) A B → Jx i T B) →
    (∀ i x T W1, (∃ rest, (i ++ x :: rest).Perm xs) → J i T W1 → W.heap.size ≤ W1.heap.size → (∀ k, T k → k < W1.heap.size) → YieldAt (FW none) 0 P l x W1 fun e W' =>
      (e = .returned (.bool true) ∧ ∃ T', J (i ++ [x]) T' W' ∧ Chg T W1 W' ∧ Adds T T' W1 W') ∨ (e = .returned (.bool false) ∧ ∃ T', Jx i T' W' ∧ Chg T W1 W' ∧ Adds T T' W1 W')) →
    J [] T0 W →
    CallsIn (FW none) 0 P gf (#[.func (.yield l) #[] #[]] ++ lb) W fun e W' => (∃ v, e = .returned v) ∧ ((∃ ys T, ys.Perm xs ∧ J ys T W') ∨ ∃ i T, Jx i T W')
section
variable {P : Program}
end

structure GuestP where
  J : List (Array Value) → (Nat → Prop) → World → Prop
  W : World
  hJ : ∀ i T A B, J i T A → Chg (fun k => W.heap.size ≤ k ∧ ¬ T k) A B → J i T B

structure YieldsP (P : Program) (g gx : GuestP) (xs : List (Array Value)) (l : Nat) : Prop where
  run : ∀ i x T W1, (∃ rest, (i ++ x :: rest).Perm xs) → g.J i T W1 → g.W.heap.size ≤ W1.heap.size → (∀ k, T k → k < W1.heap.size) → YieldAt (FW none) 0 P l x W1 fun e W' =>
    (e = .returned (.bool true) ∧ ∃ T', g.J (i ++ [x]) T' W' ∧ Chg T W1 W' ∧ Adds T T' W1 W') ∨ (e = .returned (.bool false) ∧ ∃ T', gx.J i T' W' ∧ Chg T W1 W' ∧ Adds T T' W1 W')
  same : gx.W = g.W

section
variable {c : Cx} {Q : SQ} {env : Env} {ds : List Deferred} {H F : List Res} {ops : Array Oper} {rest : List Oper} {d : Nat} {ty : TypeId} {pos : String} {af : Array Edge}

end


theorem IterP.later {P : Program} {gf : Nat} {lb : Array Value} {own : Nat → Prop} {xs : List (Array Value)} {w w' : World} {D : Nat → Prop} (h : IterP P gf lb own xs w) (hc : Chg D w w') (hd : ∀ k, own k → ¬ D k) : IterP P gf lb own xs w' :=
  fun l T0 J Jx W hW => h l T0 J Jx W ((hc.mono (fun k _ hk ho => hd k ho hk)).trans hW)

section
variable {P : Program} {n : Nat} {w0 : World} {S : Pm} {Q : SQ} {env : Env} {ds : List Deferred} {H H2 F : List Res}

end
end Go.Proofs.Ytifhkjcimhhaiaa
