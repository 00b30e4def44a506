/- The values of a row, gone over: the walks. -/
import Derived.Test.YtklbmgfpnafdlaaJitO
import Derived.Test.YtklbmgfpnafdlaaLibR
namespace Go.Proofs.Ytklbmgfpnafdlaa
open Go Go.RowKit

set_option maxRecDepth 100000 in
theorem val1_iter (b1 : Nat) (al : Option Addr) (cl : Nat) (zs : List Int) (hz : zs.length ≤ 1000000) (w : World) (hA : OK w (fpL [roR (blkR b1 105 [.slice al zs.length cl]), rdR (.slice al zs.length cl) 1 zs.length (ints .u64 zs)]) [roR (blkR b1 105 [.slice al zs.length cl]), rdR (.slice al zs.length cl) 1 zs.length (ints .u64 zs)] w) :
    Iter Try.prog 60 ([.pointer (some ⟨b1, 0, none⟩)] : List Value).toArray (fpL [roR (blkR b1 105 [.slice al zs.length cl]), rdR (.slice al zs.length cl) 1 zs.length (ints .u64 zs)]).rd (zs.map encU) w := by
  have hwr : ∀ r ∈ [roR (blkR b1 105 [.slice al zs.length cl]), rdR (.slice al zs.length cl) 1 zs.length (ints .u64 zs)], ∀ k, ¬ r.wr k := by
    intro r hr k hk
    simp at hr
    rcases hr with rfl | rfl <;> exact hk
  refine iter_of Try.func60 rfl Try.ntmps60 rfl hA hwr ?_
  intro l W g gx T0 hy
  refine WC.seq ?_
  refine WC.region ?_
  refine WL.y (Yl.loadRo on105 rfl (by repeat (first | exact Take1.head | apply Take1.tail)) (by rfl)) rfl ?_
  refine WL.y (Yl.len un105 rfl) rfl ?_ -- t6
  refine WL.y (Yl.move rfl) rfl ?_ -- t7
  refine WL.nil ?_
  refine WC.block ?_
  refine WC.loop (α := Nat × (Nat → Prop)) (fun p => [(0, .func (.yield l) #[] #[]), (5, .slice al zs.length cl), (6, .int .i64 (zs.length : Int)), (7, .int .i64 (p.1 : Int))]) (fun p => [gstR g p.1 p.2, roR (blkR b1 105 [.slice al zs.length cl]), rdR (.slice al zs.length cl) 1 zs.length (ints .u64 zs)]) (fun p => p.1 ≤ zs.length) (fun p => zs.length - p.1) (0, T0) (Nat.zero_le _) ⟨(by repeat (first | exact Sub.nil | refine Sub.cons rfl ?_)), _, (by repeat (first | exact TakeL.nil | (apply TakeL.cons; · repeat (first | exact Take1.head | apply Take1.tail))))⟩ ?_
  rintro ⟨i, T⟩ hi
  dsimp only at hi ⊢
  refine WC.seq ?_
  refine WC.region ?_
  refine WL.y (Yl.lss rfl rfl) rfl ?_ -- t8
  refine WL.nil ?_
  refine WC.seq ?_
  refine WC.condD rfl (fun g8 => ?_) (fun g8 => ?_)
  · refine WC.skip ?_
    refine WC.seq ?_
    refine WC.block ?_
    refine WC.seq ?_
    refine WC.region ?_
    have hil : i < zs.length := by omega
    obtain ⟨z, hz0⟩ : ∃ z, zs[i]? = some z := ⟨_, List.getElem?_eq_getElem hil⟩
    refine WL.y (Yl.index un105 sz22 rfl rfl (Reads.of (r := rdR (.slice al zs.length cl) 1 zs.length (ints .u64 zs)) RdOf.rd' (by repeat (first | exact Take1.head | apply Take1.tail))) rfl (by omega)) rfl ?_ -- t9
    refine WL.y (Yl.loadE (u := .int .u64 z) on22 rfl (Reads.of (r := rdR (.slice al zs.length cl) 1 zs.length (ints .u64 zs)) RdOf.rd' (by repeat (first | exact Take1.head | apply Take1.tail))) (by simp [ints, hz0])) rfl ?_
    refine WL.y (Yl.assign rfl) rfl ?_ -- t4
    refine WL.nil ?_
    refine WC.seq ?_
    refine WC.region ?_
    refine WL.y (Yl.move rfl) rfl ?_ -- t11
    refine WL.y (Yl.move rfl) rfl ?_ -- t12
    refine WL.yield (xs := [.tmp 12]) (i := i) hy rfl rfl (show (zs.map encU)[i]? = some (encU z) by rw [List.getElem?_map, hz0]; rfl) (by repeat (first | exact Take1.head | apply Take1.tail)) rfl ?_
    intro b13 T'
    refine WL.y (Yl.not rfl) rfl ?_ -- t14
    refine WL.nil ?_
    refine WC.cond rfl (fun g14 => ?_) (fun g14 => ?_)
    · refine WC.ret ?_
      repeat (first | (with_reducible refine peelT ?_) | (with_reducible refine peelB ?_) | (with_reducible refine peelTX ?_) | (with_reducible refine peelBX ?_) | (with_reducible refine peelBN ?_) | (with_reducible refine peelBO rfl ?_))
      have hb : b13 = false := by simpa using g14
      subst hb
      simp only [Bool.false_eq_true, if_false]
      exact itStop (i := i) (.inr rfl) Try.results60 (by repeat (first | exact Take1.head | apply Take1.tail)) (by rw [List.length_map]; exact hil)
    · refine WC.skip ?_
      refine WC.region ?_
      refine WL.y (Yl.add rfl rfl (IntWalk.i64_in _ (by omega))) rfl ?_ -- t15
      refine WL.y (Yl.move rfl) rfl ?_ -- t7
      refine WL.nil ?_
      have hb : b13 = true := by simpa using g14
      subst hb
      simp only [if_true]
      exact ⟨rfl, (i + 1, T'), by dsimp only; omega, by dsimp only; omega, (by repeat (first | exact Sub.nil | refine Sub.cons rfl ?_)), _, (by repeat (first | exact TakeL.nil | (apply TakeL.cons; · repeat (first | exact Take1.head | apply Take1.tail))))⟩
  · refine WC.exit ?_
    repeat (first | (with_reducible refine peelT ?_) | (with_reducible refine peelB ?_) | (with_reducible refine peelTX ?_) | (with_reducible refine peelBX ?_) | (with_reducible refine peelBN ?_) | (with_reducible refine peelBO rfl ?_))
    have hx : i = (zs.map encU).length := by rw [List.length_map]; omega
    rw [← hx]
    exact itEnd (.inl rfl) Try.results60 (by repeat (first | exact Take1.head | apply Take1.tail))
theorem val_any (al : Option Addr) (cl : Nat) (zs : List Int) (hz : zs.length ≤ 1000000) (w : World) (hw : OK w (fpL [rdR (.slice al zs.length cl) 1 zs.length (ints .u64 zs)]) [rdR (.slice al zs.length cl) 1 zs.length (ints .u64 zs)] w) :
    Fn Try.prog 44 [.slice al zs.length cl] [rdR (.slice al zs.length cl) 1 zs.length (ints .u64 zs)] w (fun _ : Nat × (Nat → Prop) => True) (fun y => .func (.func 60) #[] #[.pointer (some ⟨y.1, 0, none⟩)]) (fun y => [itR Try.prog 60 [.pointer (some ⟨y.1, 0, none⟩)] y.2 (zs.map encU)]) := by
  refine enterF Try.func44 rfl Try.ntmps44 rfl hw ?_
  refine WC.seq ?_
  refine WC.region ?_
  refine WL.to (To.box (cs := [.slice al zs.length cl]) rfl rfl) rfl ?_ -- t1
  intro b1
  refine WL.y (Yl.assign rfl) rfl ?_ -- t2
  refine WL.nil ?_
  refine WC.seq ?_
  refine WC.region ?_
  refine WL.y (Yl.makeFunc (xs := []) (ys := [.tmp 1]) rfl rfl) rfl ?_ -- t3
  refine WL.y (Yl.assign rfl) rfl ?_ -- t2
  refine WL.nil ?_
  refine WC.ret ?_
  repeat (first | (with_reducible refine peelT ?_) | (with_reducible refine peelB ?_) | (with_reducible refine peelTX ?_) | (with_reducible refine peelBX ?_) | (with_reducible refine peelBN ?_) | (with_reducible refine peelBO rfl ?_))
  refine ret1 (.inr rfl) Try.results44 rfl fun w' hh => ⟨(b1, (fpL [roR (blkR b1 105 [.slice al zs.length cl]), rdR (.slice al zs.length cl) 1 zs.length (ints .u64 zs)]).rd), trivial, rfl, ?_⟩
  have hA : OK w _ ([blkR b1 105 [.slice al zs.length cl], rdR (.slice al zs.length cl) 1 zs.length (ints .u64 zs)] ++ []) w' := hh.sub (by repeat (first | exact TakeL.nil | (apply TakeL.cons; · repeat (first | exact Take1.head | apply Take1.tail))))
  have hro : OK w _ ([roR (blkR b1 105 [.slice al zs.length cl]), rdR (.slice al zs.length cl) 1 zs.length (ints .u64 zs)] ++ []) w' := hA.roOne .head
  exact hro.toIter (val1_iter b1 al cl zs hz w' hro.here) (fun k hk => hk)
end Go.Proofs.Ytklbmgfpnafdlaa
