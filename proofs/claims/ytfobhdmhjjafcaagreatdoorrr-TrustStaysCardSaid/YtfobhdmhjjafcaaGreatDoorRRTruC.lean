/- Keys: sorting, sets; the number of two texts: the walks. -/
import Derived.Test.YtfobhdmhjjafcaaGreatDoorRRTruB
import Derived.Test.YtfobhdmhjjafcaaGreatDoorRRSoG
import Derived.Test.YtfobhdmhjjafcaaGreatDoorRRTruL
namespace Go.Proofs.YtfobhdmhjjafcaaGreatDoorRR
open Go Go.RowKit Go.Sort
theorem sortK_any (ao : Option Addr) (cap : Nat) (xs : List Ky) (hn : xs.length ≤ 12) (w : World) (hw : OK w (fpL [rwK (.slice ao xs.length cap) xs.length xs]) [rwK (.slice ao xs.length cap) xs.length xs] w) :
    Fn Tryz.prog 59 [.slice ao xs.length cap, .func (.func 60) #[] #[]] [rwK (.slice ao xs.length cap) xs.length xs] w (fun _ : Unit => True) (fun _ => .tuple #[]) (fun _ => [rwK (.slice ao xs.length cap) xs.length (ascK xs)]) := by
  have hk : bitsLen xs.length ≤ 62 := (bitsLen_le_iff xs.length 62).2 (by omega)
  have key := fun w (h : OK w (fpL [rwK (.slice ao xs.length cap) xs.length xs]) [rwK (.slice ao xs.length cap) xs.length xs] w) => pdqK_few (.slice ao xs.length cap) xs.toArray ((bitsLen xs.length : Nat) : Int) (by simpa using hn) w (by simpa using h)
  simp only [List.size_toArray, List.toList_toArray] at key
  refine enterF Tryz.func59 rfl Tryz.ntmps59 rfl hw ?_
  refine WC.seq ?_
  refine WC.region ?_
  refine WL.y (Yl.move rfl) rfl ?_ -- t5
  refine WL.y (Yl.len un22 rfl) rfl ?_ -- t6
  refine WL.y (Yl.assign rfl) rfl ?_ -- t4
  refine WL.nil ?_
  refine WC.region ?_
  refine WL.y (Yl.move rfl) rfl ?_ -- t7
  refine WL.y (Yl.move rfl) rfl ?_ -- t8
  refine WL.y (Yl.move rfl) rfl ?_ -- t9
  refine WL.y (Yl.conv un3 un67 rfl (show IntKind.u64.wrap (xs.length : Int) = (xs.length : Int) by rw [IntKind.wrap_u64]; omega)) rfl ?_ -- t10
  refine WL.callC (xs := [.tmp 10]) (cap := []) rfl rfl en84 (by repeat (first | exact TakeL.nil | (apply TakeL.cons; · repeat (first | exact Take1.head | apply Take1.tail)))) (fun w hw => len_any xs.length (by omega) w hw.left.here) rfl ?_ -- t11 math/bits.Len
  rintro ⟨⟩ -
  refine WL.y (Yl.move rfl) rfl ?_ -- t12
  refine WL.callC (xs := [.tmp 7, _, .tmp 8, .tmp 11, .tmp 12]) (cap := []) rfl rfl en83 (by repeat (first | exact TakeL.nil | (apply TakeL.cons; · repeat (first | exact Take1.head | apply Take1.tail)))) (fun w hw => key w hw.left.here) rfl ?_ -- t13 slices.pdqsortCmpFunc[hailer/api.Key]
  rintro ⟨⟩ -
  refine WL.nil ?_
  repeat (first | (with_reducible refine peelT ?_) | (with_reducible refine peelB ?_) | (with_reducible refine peelTX ?_) | (with_reducible refine peelBX ?_) | (with_reducible refine peelBN ?_) | (with_reducible refine peelBO rfl ?_))
  exact ret0 (.inl rfl) Tryz.results59 fun w' h => ⟨(), trivial, rfl, h.sub (by repeat (first | exact TakeL.nil | (apply TakeL.cons; · repeat (first | exact Take1.head | apply Take1.tail))))⟩
theorem set_any (v : Value) (xs : List Ky) (hl : xs.length ≤ 12) (w : World) (hx : RdS w (fpL []) v 32 xs.length (vcs kyV xs)) (hw : OK w (fpL []) [] w) :
    Fn Tryz.prog 25 [v] [] w (fun _ : Option Addr × Nat => True) (fun y => .slice y.1 (setK xs).length y.2) (fun y => [rwK (.slice y.1 (setK xs).length y.2) (setK xs).length (setK xs)]) := by
  have hal := ascK_len xs
  refine enterF Tryz.func25 rfl Tryz.ntmps25 rfl hw ?_
  refine WC.seq ?_
  refine WC.region ?_
  refine WL.y (Yl.assign rfl) rfl ?_ -- t2
  refine WL.nil ?_
  refine WC.seq ?_
  refine WC.region ?_
  refine WL.y (Yl.move rfl) rfl ?_ -- t3
  refine WL.callC (xs := [.tmp 3]) (cap := []) rfl rfl en58 (by repeat (first | exact TakeL.nil | (apply TakeL.cons; · repeat (first | exact Take1.head | apply Take1.tail)))) (fun w hw => cloneK_any v xs (by omega) w (hw.srcS (A := []) hx) hw.left.here) rfl ?_ -- t4 slices.Clone[[]hailer/api.Key,hailer/api.Key]
  rintro ⟨ao, cp⟩ -
  refine WL.y (Yl.assign rfl) rfl ?_ -- t0
  refine WL.nil ?_
  refine WC.seq ?_
  refine WC.region ?_
  refine WL.y (Yl.move rfl) rfl ?_ -- t5
  refine WL.callC (xs := [.tmp 5, .func 60]) (cap := []) rfl rfl en59 (by repeat (first | exact TakeL.nil | (apply TakeL.cons; · repeat (first | exact Take1.head | apply Take1.tail)))) (fun w hw => sortK_any ao cp xs hl w hw.left.here) rfl ?_ -- t6 slices.SortFunc[[]hailer/api.Key,hailer/api.Key]
  rintro ⟨⟩ -
  rw [← hal]
  refine WL.nil ?_
  refine WC.seq ?_
  refine WC.region ?_
  refine WL.y (Yl.move rfl) rfl ?_ -- t7
  refine WL.callC (xs := [.tmp 7]) (cap := []) rfl rfl en61 (by repeat (first | exact TakeL.nil | (apply TakeL.cons; · repeat (first | exact Take1.head | apply Take1.tail)))) (fun w hw => compactK_any ao cp (ascK xs) (ascK_sorted xs) (by omega) w hw.left.here) rfl ?_ -- t8 slices.Compact[[]hailer/api.Key,hailer/api.Key]
  rintro ⟨⟩ -
  refine WL.y (Yl.assign rfl) rfl ?_ -- t2
  refine WL.nil ?_
  refine WC.ret ?_
  repeat (first | (with_reducible refine peelT ?_) | (with_reducible refine peelB ?_) | (with_reducible refine peelTX ?_) | (with_reducible refine peelBX ?_) | (with_reducible refine peelBN ?_) | (with_reducible refine peelBO rfl ?_))
  exact ret1 (.inr rfl) Tryz.results25 rfl fun w' h => ⟨(ao, cp), trivial, rfl, h.sub (by repeat (first | exact TakeL.nil | (apply TakeL.cons; · repeat (first | exact Take1.head | apply Take1.tail))))⟩
end Go.Proofs.YtfobhdmhjjafcaaGreatDoorRR
