/- The rows of calls that came in. -/
import Derived.Test.YtklbmgfpnafdlaaJitTU
import Derived.Test.YtklbmgfpnafdlaaJitHU
import Derived.Test.YtklbmgfpnafdlaaJitE
import Derived.Test.YtklbmgfpnafdlaaJitW
import Derived.Test.YtklbmgfpnafdlaaLibIw
namespace Go.Proofs.Ytklbmgfpnafdlaa
open Go Go.RowKit
/-- A call. -/
structure Dj where
  k : Int
  c : Int
  n : Int
  x : Int
  m : Int
def Dj.cells (d : Dj) : List Value := [.int .u8 d.k, .int .u64 d.c, .int .u64 d.n, .int .u32 d.x, .int .i64 d.m]
def Dj.val (d : Dj) : Value := .agg d.cells.toArray
structure Dj.ok (d : Dj) : Prop where
  k : 0 ≤ d.k ∧ d.k < 256
  c : U6 d.c
  n : U6 d.n
  x : 0 ≤ d.x ∧ d.x < 4294967296
  m : -9223372036854775808 ≤ d.m ∧ d.m ≤ 9223372036854775807
def Dj.zero : Dj := ⟨0, 0, 0, 0, 0⟩
theorem Dj.ones (d : Dj) : ∀ v ∈ d.cells, v.oneCell' = true := by
  intro v hv
  simp only [Dj.cells, List.mem_cons, List.not_mem_nil, or_false] at hv
  rcases hv with rfl | rfl | rfl | rfl | rfl <;> rfl
theorem vtD : VT Try.prog 37 5 Dj.ok Dj.val := .agg (cel := Dj.cells) (by kernel_rfl) (by kernel_rfl) (by decide) (fun _ => rfl) (fun _ _ => rfl) (fun d => Dj.ones d)
theorem wf_u64j {n : Int} (h : (Lit.int .u64 n).wf = true) : U6 n := by
  rw [Lit.wf_int_iff] at h
  have e1 : IntKind.u64.min = 0 := by decide
  have e2 : IntKind.u64.max = 18446744073709551615 := by decide
  rw [e1, e2] at h
  unfold U6
  omega
theorem wf_u32j {n : Int} (h : (Lit.int .u32 n).wf = true) : 0 ≤ n ∧ n < 4294967296 := by
  rw [Lit.wf_int_iff] at h
  have e1 : IntKind.u32.min = 0 := by decide
  have e2 : IntKind.u32.max = 4294967295 := by decide
  rw [e1, e2] at h
  omega
theorem wf_i64j {n : Int} (h : (Lit.int .i64 n).wf = true) : -9223372036854775808 ≤ n ∧ n ≤ 9223372036854775807 := by
  rw [Lit.wf_int_iff] at h
  have e1 : IntKind.i64.min = -9223372036854775808 := by decide
  have e2 : IntKind.i64.max = 9223372036854775807 := by decide
  rw [e1, e2] at h
  omega
theorem djs_of : ∀ {zs : List (List Value)}, (∀ xs ∈ zs, Fits1 [some .u8, some .u64, some .u64, some .u32, some .i64] xs ∧ xs.length = 5) → ∃ ds : List Dj, zs.flatten = vcs Dj.val ds ∧ ds.length = zs.length ∧ ∀ d ∈ ds, d.ok
  | [], _ => ⟨[], rfl, rfl, fun x hx => nomatch hx⟩
  | z :: zs, h => by
    obtain ⟨ds, h1, h2, h3⟩ := djs_of (zs := zs) (fun xs hx => h xs (by simp [hx]))
    have hf := (h z (by simp)).1
    match z, hf with
    | [.int q1 a, .int q2 b, .int q3 c, .int q4 d, .int q5 e], hf =>
      obtain ⟨⟨rfl, w1⟩, ⟨rfl, w2⟩, ⟨rfl, w3⟩, ⟨rfl, w4⟩, ⟨rfl, w5⟩, _⟩ := hf
      refine ⟨⟨a, b, c, d, e⟩ :: ds, by rw [List.flatten_cons, h1, vcs_cons]; simp [Dj.val, Dj.cells, Value.cells], by simp [h2], fun x hx => ?_⟩
      rcases List.mem_cons.1 hx with rfl | hx
      · exact ⟨wf_u8 w1, wf_u64j w2, wf_u64j w3, wf_u32j w4, wf_i64j w5⟩
      · exact h3 x hx
theorem getW (m : List (Int × Int)) (c : Int) : ((mget m c).map vW).getD (.int .u32 0) = .int .u32 ((mget m c).getD 0) := by
  cases mget m c <;> rfl
theorem u64_quo {x y : Int} (h : U6 x) (hy : 0 < y) : IntKind.u64.wrap (x.tdiv y) = x / y := by
  rw [Int.tdiv_eq_ediv_of_nonneg h.1, IntKind.wrap_u64]
  have h1 : 0 ≤ x / y := Int.ediv_nonneg h.1 (by omega)
  have h2 : x / y ≤ x := Int.ediv_le_self _ h.1
  have := h.2
  omega
theorem del_none {m : List (Int × Int)} {c : Int} (h : (mget m c).isSome = false) : mdel m c = m := by
  unfold mdel
  refine List.filter_eq_self.2 fun p hp => ?_
  have hn : mget m c = none := by
    cases e : mget m c with
    | none => rfl
    | some v => rw [e] at h; cases h
  simpa using mget_none.1 hn p hp
/-- All's iterator, which hands the buffer back. -/
def alR (PT T : TypeId) (b1 b bm : Nat) (B : Jb) : List Res := [blkR b1 PT [.pointer (some ⟨b, 0, none⟩)], blkR b T (B.cells bm), mapR (Value.int .u64) vI bm B.m]
theorem ysA_at {m : List (Int × Value)} {i : Nat} {x : Array Value} (h : (ysAU m)[i]? = some x) : ∃ k, (asc (m.map (·.1)))[i]? = some k ∧ x = #[.int .u64 k, (mget m k).getD (.int .u32 0)] := by
  unfold ysAU at h
  rw [List.getElem?_map] at h
  obtain ⟨k, hk, rfl⟩ := Option.map_eq_some_iff.1 h
  exact ⟨k, hk, rfl⟩
theorem asc_mem {m : List (Int × Value)} {i : Nat} {k : Int} (h : (asc (m.map (·.1)))[i]? = some k) : (mget m k).isSome = true := by
  have : k ∈ m.map (·.1) := (asc_perm _).mem_iff.1 (List.mem_of_getElem? h)
  obtain ⟨p, hp, rfl⟩ := List.mem_map.1 this
  cases e : mget m p.1 with
  | some v => rfl
  | none => exact absurd rfl (mget_none.1 e p hp)
end Go.Proofs.Ytklbmgfpnafdlaa
