/- PolicyLoads: the law. -/
import Derived.Test.YtnlibngncicobaaPolSa
import Derived.Test.YtnlibngncicobaaLibM
import Derived.Test.YtnlibngncicobaaLibX
namespace Go.Proofs.Ytnlibngncicobaa
open Go Go.RowKit
theorem loadYes_any (xv : Value) (bs : List Int) (hB : Bytes bs) (hs : bs.length ≤ 1000000) (hd : ldO bs = true) (w : World) (hx : RdS w (fpL []) xv 1 bs.length (ints .u8 bs)) (hw : OK w (fpL []) [] w) :
    Fn Try.prog 23 [xv] [] w (fun _ : Nat × Option Addr × Nat => True) (fun y => .tuple #[.pointer (some ⟨y.1, 0, none⟩), .int .i64 0]) (fun y => polR y.1 y.2.1 y.2.2 (ldP bs)) := by
  have ht : telU (ldF bs) = true := by
    unfold ldO at hd
    simp only [Bool.and_eq_true] at hd
    exact hd.1.1.1
  refine Calls.mono (loadP_any xv bs hB hs ht w hx hw) ?_
  rintro e w' ⟨y, _, h2, h3⟩
  rw [hd] at h2 h3
  exact ⟨y, trivial, h2, h3⟩
theorem load_is {bs : List Int} (hB : Bytes bs) (h : rOk bs = true) : (ldP bs).ok ∧ ldO bs = true ∧ rldP bs = ldP bs ∧ polB (ldP bs) = bs := by
  obtain ⟨h1, h2⟩ := ld_main hB
  obtain ⟨e1, e2, e3⟩ := h2 h
  obtain ⟨k1, k2, k3, k4, k5, k6, k7⟩ := rOk_is h
  have hb2 := hB.getD (i := 2) (by omega)
  have hl : (rLs bs).length = (bs.getD 2 0).toNat := by simp [rLs]
  refine ⟨⟨?_, ?_, ?_, rfl, ?_, rfl⟩, by rw [h1, h], ?_, ?_⟩
  · show 1 ≤ ldF bs ∧ ldF bs ≤ 3
    rw [e1]; exact ⟨k2, k3⟩
  · intro r hr
    have hr : r ∈ ldL bs := hr
    rw [e2] at hr
    obtain ⟨j, hj, rfl⟩ := List.mem_map.1 hr
    have hj := List.mem_range.1 hj
    refine ⟨rA_ok hB (by omega), ?_⟩
    have := k7 j hj
    unfold okA at this
    simp only [Bool.and_eq_true] at this
    exact this.2
  · show (ldL bs).length ≤ 64
    rw [e2, hl]; omega
  · intro x hx
    have hx : x ∈ List.replicate 8 (0 : Int) := hx
    rw [List.eq_of_mem_replicate hx]
    omega
  · unfold rldP ldP
    rw [h, if_pos rfl, e1, e2]
  · show [ldF bs] ++ be (ldL bs).length 2 ++ rlB (ldL bs) = bs
    exact e3.symm
end Go.Proofs.Ytnlibngncicobaa
