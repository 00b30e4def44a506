/- A slice of slices of bytes that may be read: a resource, and how a frame opens it. -/
import Derived.Test.YtcplbkbimpiioaaGreatDoorLibZ
import Derived.SizedLaws
namespace Go.Proofs.YtcplbkbimpiioaaGreatDoor
open Go Go.RowKit

def textsR (lv : Value) (vs : List Value) (ls : List (List Int)) : Res where
  fp := fun k => (blk lv k ∧ vs ≠ []) ∨ ∃ (i : Nat) (v : Value) (bs : List Int), vs[i]? = some v ∧ ls[i]? = some bs ∧ blk v k ∧ ints .u8 bs ≠ []
  wr := noB
  sub := fun _ h => h.elim
  ok := fun w => Rd w 1 lv ls.length vs ∧ ∀ (i : Nat) (v : Value) (bs : List Int), vs[i]? = some v → ls[i]? = some bs → Rd w 1 v bs.length (ints .u8 bs)
  lt := fun w h k hk => by
    rcases hk with hk | ⟨i, v, bs, h1, h2, h3, h4⟩
    · exact h.1.lt' hk.2 k hk.1
    · exact (h.2 i v bs h1 h2).lt' h4 k h3
  st := fun w w' D h hc hd => by
    refine ⟨?_, fun i v bs h1 h2 => ?_⟩
    · by_cases h0 : vs = []
      · exact h.1.empty h0
      · exact h.1.chg hc (fun k hk => hd k (.inl ⟨hk, h0⟩))
    · by_cases h0 : ints .u8 bs = []
      · exact (h.2 i v bs h1 h2).empty h0
      · exact (h.2 i v bs h1 h2).chg hc (fun k hk => hd k (.inr ⟨i, v, bs, h1, h2, hk, h0⟩))
theorem RdOf.texts {lv : Value} {vs : List Value} {ls : List (List Int)} : RdOf (textsR lv vs ls) lv 1 ls.length vs := ⟨fun _ h => h.1⟩
theorem RdOf.text {lv : Value} {vs : List Value} {ls : List (List Int)} {i : Nat} {v : Value} {bs : List Int} (h1 : vs[i]? = some v) (h2 : ls[i]? = some bs) : RdOf (textsR lv vs ls) v 1 bs.length (ints .u8 bs) := ⟨fun _ h => h.2 i v bs h1 h2⟩

section
variable {P : Program} {w : World} {base : Nat} {sp : Nat → Bool} {held : Bool} {H : Type} {enc : TypeId × Value → H}
end
end Go.Proofs.YtcplbkbimpiioaaGreatDoor
