/- A buffer played: what is handed over, in plain Lean. -/
import Derived.Test.YtklbmgfpnafdlaaJitC
import Derived.Test.YtklbmgfpnafdlaaLibG
namespace Go.Proofs.Ytklbmgfpnafdlaa
open Go Go.RowKit
/-- K calls of Next go from g 0 to g K, and the next one tells nothing; cnt k: how many of the first k were not lost; ys: what these tell. -/
structure PlayS (now : Int) (z : Value) (g : Nat → Jb) (K : Nat) (x : Nat → Value) (ct : Nat → Int) (lo : Nat → Bool) (cnt pos : Nat → Nat) (ys : List (Array Value)) : Prop where
  ok : ∀ k, k ≤ K → (g k).ok
  step : ∀ k, k < K → (g k).next now z = (g (k + 1), x k, ct k, lo k, true)
  stop : (g K).next now z = (g K, z, 0, false, false)
  c0 : cnt 0 = 0
  cs : ∀ k, k < K → cnt (k + 1) = cnt k + (if lo k then 0 else 1)
  cK : cnt K = ys.length
  y : ∀ k, k < K → lo k = false → cnt k < ys.length ∧ ys[cnt k]? = some #[.int .u64 (ct k), x k] ∧ pos (cnt k) = k
theorem PlayS.all {now : Int} {z : Value} {g : Nat → Jb} {K : Nat} {x : Nat → Value} {ct : Nat → Int} {lo : Nat → Bool} {cnt pos : Nat → Nat} {ys : List (Array Value)} (hS : PlayS now z g K x ct lo cnt pos ys) {k : Nat} (hk : k ≤ K) :
    ∃ gn xx cc ll, (g k).next now z = (gn, xx, cc, ll, decide (k < K)) ∧ (k < K → gn = g (k + 1) ∧ xx = x k ∧ cc = ct k ∧ ll = lo k) ∧ (k = K → gn = g K) := by
  by_cases h : k < K
  · exact ⟨_, _, _, _, by rw [hS.step k h, decide_eq_true h], fun _ => ⟨rfl, rfl, rfl, rfl⟩, fun e => by omega⟩
  · obtain rfl : k = K := by omega
    exact ⟨_, _, _, _, by rw [hS.stop, decide_eq_false h], fun e => absurd e h, fun _ => rfl⟩
def plR (PT T u64 : TypeId) (b2 b3 b m : Nat) (now : Int) (B : Jb) : List Res := [blkR b2 PT [.pointer (some ⟨b, 0, none⟩)], blkR b3 u64 [.int .u64 now], blkR b T (B.cells m), mapR (Value.int .u64) vI m B.m]
def Jb.sums (B : Jb) : List Value := [.int .u64 B.k, .int .u64 B.p, .int .u64 B.l, .int .u64 B.t, .int .u64 B.e, .int .u64 B.f]
end Go.Proofs.Ytklbmgfpnafdlaa
