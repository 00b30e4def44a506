/- Buffers of uint32: gone over: the walks. -/
import Derived.Test.YtklbmgfpnafdlaaJitBU
import Derived.Test.YtklbmgfpnafdlaaJitQU
import Derived.Test.YtklbmgfpnafdlaaJitR
import Derived.Test.YtklbmgfpnafdlaaJitSU
namespace Go.Proofs.Ytklbmgfpnafdlaa
open Go Go.RowKit

def ysAU (m : List (Int × Value)) : List (Array Value) := (asc (m.map (·.1))).map fun k => #[.int .u64 k, (mget m k).getD (.int .u32 0)]
theorem ysAU_len (m : List (Int × Value)) : (ysAU m).length = m.length := by simp [ysAU, asc_len]
theorem ysAU_size {m : List (Int × Value)} : ∀ x ∈ ysAU m, x.size = 2 := by
  intro x hx
  obtain ⟨z, _, rfl⟩ := List.mem_map.1 hx
  rfl
def allRU (b1 b bm : Nat) (B : Jb) : List Res := [roR (blkR b1 25 [.pointer (some ⟨b, 0, none⟩)]), roR (blkR b 97 (B.cells bm)), roR (mapR (Value.int .u64) vI bm B.m)]
set_option maxRecDepth 100000 in
theorem all1U_iter (b1 b bm : Nat) (B : Jb) (hB : B.ok) (hm : B.m.length ≤ 1000000) (w : World) (hA : OK w (fpL (allRU b1 b bm B)) (allRU b1 b bm B) w) :
    Iter Try.prog 42 ([.pointer (some ⟨b1, 0, none⟩)] : List Value).toArray (fpL (allRU b1 b bm B)).rd (ysAU B.m) w := by
  unfold allRU at hA ⊢
  have hwr : ∀ r ∈ [roR (blkR b1 25 [.pointer (some ⟨b, 0, none⟩)]), roR (blkR b 97 (B.cells bm)), roR (mapR (Value.int .u64) vI bm B.m)], ∀ k, ¬ r.wr k := by
    intro r hr k hk
    simp at hr
    rcases hr with rfl | rfl | rfl <;> exact hk
  obtain ⟨ks, hks⟩ : ∃ ks, B.m.map (·.1) = ks := ⟨_, rfl⟩
  have hkl : ks.length = B.m.length := by rw [← hks, List.length_map]
  obtain ⟨zs, hzs⟩ : ∃ zs, asc ks = zs := ⟨_, rfl⟩
  have hzl : zs.length = B.m.length := by rw [← hzs, asc_len, hkl]
  have hln : (ysAU B.m).length = zs.length := by rw [ysAU_len, hzl]
  refine iter_ofM Try.func42 rfl Try.ntmps42 rfl hA hwr ?_
  intro l W g gx T0 hy
  refine WC.seq ?_
  refine WC.region ?_
  refine WL.to (To.box (cs := [.func (.yield l) #[] #[]]) rfl rfl) rfl ?_ -- t2
  intro b2
  refine WL.nil ?_
  refine WC.seq ?_
  refine WC.seq ?_
  refine WC.region ?_
  refine WL.y (Yl.loadRo on25 rfl (by repeat (first | exact Take1.head | apply Take1.tail)) (by rfl)) rfl ?_
  refine WL.y (Yl.nilEq un25 rfl rfl) rfl ?_ -- t6
  refine WL.know (t := 6) (b' := false) rfl (by first | rfl | (simp; done) | (simp; omega)) ?_
  refine WL.nil ?_
  refine WC.condF rfl (by first | rfl | (simp; done) | (simp; omega)) ?_
  refine WC.skip ?_
  refine WC.seq ?_
  refine WC.region ?_
  refine WL.y (Yl.loadRo on25 rfl (by repeat (first | exact Take1.head | apply Take1.tail)) (by rfl)) rfl ?_
  refine WL.y (Yl.nilCheck rfl) rfl ?_ -- t8
  refine WL.y (Yl.field fo97_7 rfl) rfl ?_ -- t9
  refine WL.y (Yl.loadRo on63 rfl (by repeat (first | exact Take1.head | apply Take1.tail)) (by rfl)) rfl ?_
  refine WL.callC (xs := [.tmp 10]) (cap := []) rfl rfl en43 (by repeat (first | exact TakeL.nil | (apply TakeL.cons; · repeat (first | exact Take1.head | apply Take1.tail)))) (fun w hw => cloneU_any bm B.m w hw.left.here) rfl ?_ -- t11 maps.Clone[map[uint64]uint32,uint64,uint32]
  rintro x -
  dsimp only [List.cons_append, List.nil_append]
  refine WL.view (fun w h => h.roOne (r := mapR (Value.int .u64) vI x B.m) (by repeat (first | exact Take1.head | apply Take1.tail))) ?_
  refine WL.view (fun w h => h.dup (r := roR (mapR (Value.int .u64) vI x B.m)) (by repeat (first | exact Take1.head | apply Take1.tail)) (fun _ h => h)) ?_
  refine WL.to (To.alloc (cs := [.map none]) zr63 rfl) rfl ?_ -- t3
  intro b3
  refine WL.sto (Sto.one sz63 rfl rfl (by repeat (first | exact Take1.head | apply Take1.tail)) rfl (by rfl) (by rfl)) (fun _ h => nomatch h) ?_ -- st 1
  refine WL.nil ?_
  refine WC.seq ?_
  refine WC.region ?_
  refine WL.y (Yl.load on63 rfl (by repeat (first | exact Take1.head | apply Take1.tail)) (by rfl)) rfl ?_ -- t12
  refine WL.callC (xs := [.tmp 12]) (cap := []) rfl rfl en46 (by repeat (first | exact TakeL.nil | (apply TakeL.cons; · repeat (first | exact Take1.head | apply Take1.tail)))) (fun w hw => keysU_any x B.m w hw.left.here) rfl ?_ -- t13 maps.Keys[map[uint64]uint32,uint64,uint32]
  rintro ⟨k1, own1⟩ -
  rw [hks]
  dsimp only [List.cons_append, List.nil_append]
  refine WL.callC (xs := [.tmp 13]) (cap := []) rfl rfl en45 (by repeat (first | exact TakeL.nil | (apply TakeL.cons; · repeat (first | exact Take1.head | apply Take1.tail)))) (fun w hw => sorted_any 63 [.pointer (some ⟨k1, 0, none⟩)] own1 ks (by rw [hkl]; exact hm) en63 w hw.left.here) rfl ?_ -- t14 slices.Sorted[uint64]
  rintro ⟨a14, c14⟩ -
  rw [hzs]
  dsimp only [List.cons_append, List.nil_append]
  refine WL.view (fun w h => h.readOnly (v := .slice a14 zs.length c14) (by repeat (first | exact Take1.head | apply Take1.tail))) ?_
  refine WL.callC (xs := [.tmp 14]) (cap := []) rfl rfl en44 (by repeat (first | exact TakeL.nil | (apply TakeL.cons; · repeat (first | exact Take1.head | apply Take1.tail)))) (fun w hw => val_any a14 c14 zs (by omega) w hw.left.here) rfl ?_ -- t15 slices.Values[[]uint64,uint64]
  rintro ⟨v1, own2⟩ -
  dsimp only [List.cons_append, List.nil_append]
  refine WL.nil ?_
  refine WC.block ?_
  refine WC.range (α := Nat → Prop) (xs := zs.map encU) (fun i T => [gstR g i T, blkR b2 100 [.func (.yield l) #[] #[]], blkR b3 63 [.map (some x)], roR (mapR (Value.int .u64) vI x B.m)]) (fun _ _ => True) T0 rfl en60 encU_size rfl (by repeat (first | exact Take1.head | apply Take1.tail)) trivial (by repeat (first | exact TakeL.nil | (apply TakeL.cons; · repeat (first | exact Take1.head | apply Take1.tail)))) ?_ ?_
  · intro l2 i xx T hx _ W2
    rw [List.getElem?_map] at hx
    obtain ⟨z, hz, rfl⟩ := Option.map_eq_some_iff.1 hx
    have hil : i < zs.length := (List.getElem?_eq_some_iff.1 hz).1
    have hzU : U6 z := by
      have : z ∈ B.m.map (·.1) := (asc_perm _).mem_iff.1 (by rw [hks, hzs]; exact List.mem_of_getElem? hz)
      obtain ⟨p, hp, rfl⟩ := List.mem_map.1 this
      exact hB.m p hp
    show WC _ _ _ ((16, .int .u64 z) :: _) _ _
    refine WC.region ?_
    refine WL.y (Yl.assign rfl) rfl ?_ -- t4
    refine WL.nil ?_
    repeat (first | (with_reducible refine peelT ?_) | (with_reducible refine peelB ?_) | (with_reducible refine peelTX ?_) | (with_reducible refine peelBX ?_) | (with_reducible refine peelBN ?_) | (with_reducible refine peelBO rfl ?_))
    refine fun W2 => ?_
    refine WC.block ?_
    refine WC.seq ?_
    refine WC.region ?_
    refine WL.y (Yl.load on100 rfl (by repeat (first | exact Take1.head | apply Take1.tail)) (by rfl)) rfl ?_ -- t17
    refine WL.y (Yl.move rfl) rfl ?_ -- t18
    refine WL.y (Yl.load on63 rfl (by repeat (first | exact Take1.head | apply Take1.tail)) (by rfl)) rfl ?_ -- t19
    refine WL.y (Yl.move rfl) rfl ?_ -- t20
    refine WL.y (Yl.lookup (kv := Value.int .u64) keyU un63 (fun _ => by kernel_rfl) (z := .int .u32 0) (fun p hp => hB.m p hp) rfl rfl hzU (MReads.of (m := B.m) MapOf.ro (by repeat (first | exact Take1.head | apply Take1.tail)))) rfl ?_ -- t21
    rw [mapI]
    refine WL.yield (xs := [.tmp 18, .tmp 21]) (i := i) hy rfl rfl (by unfold ysAU; rw [hks, hzs, List.getElem?_map, hz]; rfl) (by repeat (first | exact Take1.head | apply Take1.tail)) rfl ?_
    intro b22 T'
    refine WL.y (Yl.not rfl) rfl ?_ -- t23
    refine WL.nil ?_
    refine WC.cond rfl (fun g23 => ?_) (fun g23 => ?_)
    · refine WC.ret ?_
      repeat (first | (with_reducible refine peelT ?_) | (with_reducible refine peelB ?_) | (with_reducible refine peelTX ?_) | (with_reducible refine peelBX ?_) | (with_reducible refine peelBN ?_) | (with_reducible refine peelBO rfl ?_))
      have hb : b22 = false := by simpa using g23
      subst hb
      simp only [Bool.false_eq_true, if_false]
      refine ⟨[gstR gx i T'], _, (by repeat (first | exact TakeL.nil | (apply TakeL.cons; · repeat (first | exact Take1.head | apply Take1.tail)))), fun D => ?_⟩
      dsimp only [List.cons_append, List.nil_append]
      repeat (first | (with_reducible refine peelT ?_) | (with_reducible refine peelB ?_) | (with_reducible refine peelTX ?_) | (with_reducible refine peelBX ?_) | (with_reducible refine peelBN ?_) | (with_reducible refine peelBO rfl ?_))
      first | (refine retM.of (.cons (by repeat (first | exact Take1.head | apply Take1.tail)) .nil) ?_; rw [← hln]; exact itEnd (.inl rfl) Try.results42 (by repeat (first | exact Take1.head | apply Take1.tail))) | (refine retM.of (.cons (by repeat (first | exact Take1.head | apply Take1.tail)) .nil) ?_; exact itStop (i := i) (.inr rfl) Try.results42 (by repeat (first | exact Take1.head | apply Take1.tail)) (by rw [hln]; omega))
    · refine WC.skip ?_
      repeat (first | (with_reducible refine peelT ?_) | (with_reducible refine peelB ?_) | (with_reducible refine peelTX ?_) | (with_reducible refine peelBX ?_) | (with_reducible refine peelBN ?_) | (with_reducible refine peelBO rfl ?_))
      have hb : b22 = true := by simpa using g23
      subst hb
      simp only [if_true]
      exact ⟨[gstR g (i + 1) T', blkR b2 100 [.func (.yield l) #[] #[]], blkR b3 63 [.map (some x)], roR (mapR (Value.int .u64) vI x B.m)], _, (by repeat (first | exact TakeL.nil | (apply TakeL.cons; · repeat (first | exact Take1.head | apply Take1.tail)))), T', trivial, rfl⟩
  · rintro T D -
    rw [List.length_map]
    dsimp only [List.cons_append, List.nil_append]
    repeat (first | (with_reducible refine peelT ?_) | (with_reducible refine peelB ?_) | (with_reducible refine peelTX ?_) | (with_reducible refine peelBX ?_) | (with_reducible refine peelBN ?_) | (with_reducible refine peelBO rfl ?_))
    first | (refine retM.of (.cons (by repeat (first | exact Take1.head | apply Take1.tail)) .nil) ?_; rw [← hln]; exact itEnd (.inl rfl) Try.results42 (by repeat (first | exact Take1.head | apply Take1.tail))) | (refine retM.of (.cons (by repeat (first | exact Take1.head | apply Take1.tail)) .nil) ?_; exact itStop (i := i) (.inr rfl) Try.results42 (by repeat (first | exact Take1.head | apply Take1.tail)) (by rw [hln]; omega))
theorem allU_any (b bm : Nat) (B : Jb) (hB : B.ok) (hm : B.m.length ≤ 1000000) (w : World) (hw : OK w (fpL [roR (blkR b 97 (B.cells bm)), roR (mapR (Value.int .u64) vI bm B.m)]) [roR (blkR b 97 (B.cells bm)), roR (mapR (Value.int .u64) vI bm B.m)] w) :
    Fn Try.prog 15 [.pointer (some ⟨b, 0, none⟩)] [roR (blkR b 97 (B.cells bm)), roR (mapR (Value.int .u64) vI bm B.m)] w (fun _ : Nat × (Nat → Prop) => True) (fun y => .func (.func 42) #[] #[.pointer (some ⟨y.1, 0, none⟩)]) (fun y => [itR Try.prog 42 [.pointer (some ⟨y.1, 0, none⟩)] y.2 (ysAU B.m)]) := by
  refine enterF Try.func15 rfl Try.ntmps15 rfl hw ?_
  refine WC.seq ?_
  refine WC.region ?_
  refine WL.to (To.box (cs := [.pointer (some ⟨b, 0, none⟩)]) rfl rfl) rfl ?_ -- t1
  intro b1
  refine WL.y (Yl.assign rfl) rfl ?_ -- t2
  refine WL.nil ?_
  refine WC.seq ?_
  refine WC.region ?_
  refine WL.y (Yl.makeFunc (xs := []) (ys := [.tmp 1]) rfl rfl) rfl ?_ -- t3
  refine WL.y (Yl.assign rfl) rfl ?_ -- t2
  refine WL.nil ?_
  refine WC.ret ?_
  repeat (first | (with_reducible refine peelT ?_) | (with_reducible refine peelB ?_) | (with_reducible refine peelTX ?_) | (with_reducible refine peelBX ?_) | (with_reducible refine peelBN ?_) | (with_reducible refine peelBO rfl ?_))
  refine ret1 (.inr rfl) Try.results15 rfl fun w' hh => ⟨(b1, (fpL (allRU b1 b bm B)).rd), trivial, rfl, ?_⟩
  have hA : OK w _ ([blkR b1 25 [.pointer (some ⟨b, 0, none⟩)], roR (blkR b 97 (B.cells bm)), roR (mapR (Value.int .u64) vI bm B.m)] ++ []) w' := hh.sub (by repeat (first | exact TakeL.nil | (apply TakeL.cons; · repeat (first | exact Take1.head | apply Take1.tail))))
  have hro : OK w _ (allRU b1 b bm B ++ []) w' := hA.roOne .head
  exact hro.toIter (all1U_iter b1 b bm B hB hm w' hro.here) (fun k hk => hk)
end Go.Proofs.Ytklbmgfpnafdlaa
