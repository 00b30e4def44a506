/- Sorting rows of uint8: slices.Sort: the walk. -/
import Derived.Test.YtbgimajbehodnaaGreatDoorSoKB
namespace Go.Proofs.YtbgimajbehodnaaGreatDoor
open Go Go.RowKit Go.Sort

/-- The list, ascending. -/
def asc (zs : List Int) : List Int := zs.mergeSort (fun x y => decide (x ≤ y))
theorem asc_perm (zs : List Int) : (asc zs).Perm zs := List.mergeSort_perm _ _
theorem asc_len (zs : List Int) : (asc zs).length = zs.length := (asc_perm zs).length_eq
theorem asc_sorted (zs : List Int) : (asc zs).Pairwise (fun x y => x ≤ y) := by
  have := List.pairwise_mergeSort (le := fun (x y : Int) => decide (x ≤ y)) (fun a b c h1 h2 => by simp at *; omega) (fun a b => by simp; omega) zs
  exact this.imp (fun h => by simpa using h)
theorem sortB_any (ao : Option Addr) (cap : Nat) (zs : List Int) (hn : zs.length ≤ 1099511627776) (w : World) (hw : OK w (fpL [ownR (.slice ao zs.length cap) 5 1 zs.length (ints .u8 zs)]) [ownR (.slice ao zs.length cap) 5 1 zs.length (ints .u8 zs)] w) :
    Fn Tryz.prog 101 [.slice ao zs.length cap] [ownR (.slice ao zs.length cap) 5 1 zs.length (ints .u8 zs)] w (fun _ : Unit => True) (fun _ => .tuple #[]) (fun _ => [ownR (.slice ao zs.length cap) 5 1 zs.length (ints .u8 (asc zs))]) := by
  have hs := sortInt zs
  unfold Go.Sort.sort at hs
  rw [List.size_toArray] at hs
  have hk : bitsLen zs.length ≤ 62 := (bitsLen_le_iff zs.length 62).2 (by omega)
  have key := fun w (h : OK w (fpL [ownR (.slice ao zs.length cap) 5 1 zs.length (ints .u8 zs)]) [ownR (.slice ao zs.length cap) 5 1 zs.length (ints .u8 zs)] w) => pdqB_any (.slice ao zs.length cap) zs.length hn zs.toArray 0 zs.length (bitsLen zs.length) (by simp) (Nat.zero_le _) (Nat.le_refl _) (by omega) w h
  rw [hs] at key
  refine enterF Tryz.func101 rfl Tryz.ntmps101 rfl hw ?_
  refine WC.seq ?_
  refine WC.region ?_
  refine WL.y (Yl.move rfl) rfl ?_
  refine WL.y (Yl.len un62 rfl) rfl ?_
  refine WL.y (Yl.assign rfl) rfl ?_
  refine WL.nil ?_
  refine WC.region ?_
  refine WL.y (Yl.move rfl) rfl ?_
  refine WL.y (Yl.move rfl) rfl ?_
  refine WL.y (Yl.move rfl) rfl ?_
  refine WL.y (Yl.conv un3 un180 rfl (show IntKind.u64.wrap (zs.length : Int) = (zs.length : Int) by rw [IntKind.wrap_u64]; omega)) rfl ?_
  refine WL.callC (xs := [.tmp 8]) (cap := []) rfl rfl en114 (by repeat' constructor) (fun w hw => len_any zs.length (by omega) w hw.left.here) rfl ?_
  rintro ⟨⟩ -
  refine WL.callC (xs := [.tmp 5, _, .tmp 6, .tmp 9]) (cap := []) rfl rfl en126 (by repeat' constructor) (fun w hw => key w hw.left.here) rfl ?_
  rintro ⟨⟩ -
  refine WL.nil ?_
  repeat (with_reducible (first | refine peelT ?_ | refine peelB ?_ | refine peelTX ?_ | refine peelBX ?_ | refine peelBN ?_ | refine peelBO rfl ?_))
  exact ret0 (.inl rfl) Tryz.results101 fun w' h => ⟨(), trivial, rfl, h.sub (by repeat' constructor)⟩
end Go.Proofs.YtbgimajbehodnaaGreatDoor
