/- Keys: sorting, sets; the number of two texts: the walks. -/
import Derived.Test.YtcplbkbimpiioaaGreatDoorTruB
import Derived.Test.YtcplbkbimpiioaaGreatDoorSoG
import Derived.Test.YtcplbkbimpiioaaGreatDoorTruL
namespace Go.Proofs.YtcplbkbimpiioaaGreatDoor
open Go Go.RowKit Go.Sort
theorem sortK_any (ao : Option Addr) (cap : Nat) (xs : List Ky) (hn : xs.length ≤ 12) (w : World) (hw : OK w (fpL [rwK (.slice ao xs.length cap) xs.length xs]) [rwK (.slice ao xs.length cap) xs.length xs] w) :
    Fn Tryz.prog 60 [.slice ao xs.length cap, .func (.func 61) #[] #[]] [rwK (.slice ao xs.length cap) xs.length xs] w (fun _ : Unit => True) (fun _ => .tuple #[]) (fun _ => [rwK (.slice ao xs.length cap) xs.length (ascK xs)]) := by
  have hk : bitsLen xs.length ≤ 62 := (bitsLen_le_iff xs.length 62).2 (by omega)
  have key := fun w (h : OK w (fpL [rwK (.slice ao xs.length cap) xs.length xs]) [rwK (.slice ao xs.length cap) xs.length xs] w) => pdqK_few (.slice ao xs.length cap) xs.toArray ((bitsLen xs.length : Nat) : Int) (by simpa using hn) w (by simpa using h)
  simp only [List.size_toArray, List.toList_toArray] at key
  refine enterF Tryz.func60 rfl Tryz.ntmps60 rfl hw ?_
  refine WC.seq ?_
  refine WC.region ?_
  refine WL.y (Yl.move rfl) rfl ?_
  refine WL.y (Yl.len un22 rfl) rfl ?_
  refine WL.y (Yl.assign rfl) rfl ?_
  refine WL.nil ?_
  refine WC.region ?_
  refine WL.y (Yl.move rfl) rfl ?_
  refine WL.y (Yl.move rfl) rfl ?_
  refine WL.y (Yl.move rfl) rfl ?_
  refine WL.y (Yl.conv un3 un123 rfl (show IntKind.u64.wrap (xs.length : Int) = (xs.length : Int) by rw [IntKind.wrap_u64]; omega)) rfl ?_
  refine WL.callC (xs := [.tmp 10]) (cap := []) rfl rfl en82 (by repeat' constructor) (fun w hw => len_any xs.length (by omega) w hw.left.here) rfl ?_
  rintro ⟨⟩ -
  refine WL.y (Yl.move rfl) rfl ?_
  refine WL.callC (xs := [.tmp 7, _, .tmp 8, .tmp 11, .tmp 12]) (cap := []) rfl rfl en81 (by repeat' constructor) (fun w hw => key w hw.left.here) rfl ?_
  rintro ⟨⟩ -
  refine WL.nil ?_
  repeat (with_reducible (first | refine peelT ?_ | refine peelB ?_ | refine peelTX ?_ | refine peelBX ?_ | refine peelBN ?_ | refine peelBO rfl ?_))
  exact ret0 (.inl rfl) Tryz.results60 fun w' h => ⟨(), trivial, rfl, h.sub (by repeat' constructor)⟩
theorem set_any (v : Value) (xs : List Ky) (hl : xs.length ≤ 12) (w : World) (hx : RdS w (fpL []) v 32 xs.length (vcs kyV xs)) (hw : OK w (fpL []) [] w) :
    Fn Tryz.prog 24 [v] [] w (fun _ : Option Addr × Nat => True) (fun y => .slice y.1 (setK xs).length y.2) (fun y => [rwK (.slice y.1 (setK xs).length y.2) (setK xs).length (setK xs)]) := by
  have hal := ascK_len xs
  refine enterF Tryz.func24 rfl Tryz.ntmps24 rfl hw ?_
  refine WC.seq ?_
  refine WC.region ?_
  refine WL.y (Yl.assign rfl) rfl ?_
  refine WL.nil ?_
  refine WC.seq ?_
  refine WC.region ?_
  refine WL.y (Yl.move rfl) rfl ?_
  refine WL.callC (xs := [.tmp 3]) (cap := []) rfl rfl en59 (by repeat' constructor) (fun w hw => cloneK_any v xs (by omega) w (hw.srcS (A := []) hx) hw.left.here) rfl ?_
  rintro ⟨ao, cp⟩ -
  refine WL.y (Yl.assign rfl) rfl ?_
  refine WL.nil ?_
  refine WC.seq ?_
  refine WC.region ?_
  refine WL.y (Yl.move rfl) rfl ?_
  refine WL.callC (xs := [.tmp 5, .func 61]) (cap := []) rfl rfl en60 (by repeat' constructor) (fun w hw => sortK_any ao cp xs hl w hw.left.here) rfl ?_
  rintro ⟨⟩ -
  rw [← hal]
  refine WL.nil ?_
  refine WC.seq ?_
  refine WC.region ?_
  refine WL.y (Yl.move rfl) rfl ?_
  refine WL.callC (xs := [.tmp 7]) (cap := []) rfl rfl en62 (by repeat' constructor) (fun w hw => compactK_any ao cp (ascK xs) (ascK_sorted xs) (by omega) w hw.left.here) rfl ?_
  rintro ⟨⟩ -
  refine WL.y (Yl.assign rfl) rfl ?_
  refine WL.nil ?_
  refine WC.ret ?_
  repeat (with_reducible (first | refine peelT ?_ | refine peelB ?_ | refine peelTX ?_ | refine peelBX ?_ | refine peelBN ?_ | refine peelBO rfl ?_))
  exact ret1 (.inr rfl) Tryz.results24 rfl fun w' h => ⟨(ao, cp), trivial, rfl, h.sub (by repeat' constructor)⟩
end Go.Proofs.YtcplbkbimpiioaaGreatDoor
