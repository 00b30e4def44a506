/- Rows collected off an iterator that was handed in: the walks. -/
import Derived.Test.YtklbmgfpnafdlaaJitC
import Derived.Test.YtklbmgfpnafdlaaLibF
namespace Go.Proofs.Ytklbmgfpnafdlaa
open Go Go.RowKit

def encU (z : Int) : Array Value := #[.int .u64 z]
def decU (a : Array Value) : Int := match a[0]? with | some (Value.int _ z) => z | _ => 0
theorem encU_perm {xs zs : List Int} (h : (xs.map encU).Perm (zs.map encU)) : xs.Perm zs := by
  have := h.map decU
  rw [List.map_map, List.map_map] at this
  have e : decU ∘ encU = id := by funext z; rfl
  rwa [e, List.map_id, List.map_id] at this
theorem encU_size {zs : List Int} : ∀ x ∈ zs.map encU, x.size = 1 := by
  intro x hx
  obtain ⟨z, _, rfl⟩ := List.mem_map.1 hx
  rfl
set_option maxRecDepth 100000 in
theorem appSeq_any (gf : Nat) (lb : List Value) (own : Nat → Prop) (zs : List Int) (hz : zs.length ≤ 1000000) (eg : ∀ args w, (callFunc gf args).run Try.prog w = .ok (.enter gf args) w) (w : World) (hw : OK w (fpL [itP Try.prog gf lb own (zs.map encU)]) [itP Try.prog gf lb own (zs.map encU)] w) :
    Fn Try.prog 68 [.slice none 0 0, .func (.func gf) #[] lb.toArray] [itP Try.prog gf lb own (zs.map encU)] w (fun y : (Option Addr × Nat) × List Int => y.2.Perm zs) (fun y => .slice y.1.1 y.2.length y.1.2) (fun y => [ownR (.slice y.1.1 y.2.length y.1.2) 22 1 y.2.length (ints .u64 y.2)]) := by
  refine enterM Try.func68 rfl Try.ntmps68 rfl hw ?_
  refine WC.seq ?_
  refine WC.region ?_
  refine WL.to (To.box (cs := [.slice none 0 0]) rfl rfl) rfl ?_ -- t2
  intro b2
  refine WL.y (Yl.assign rfl) rfl ?_ -- t4
  refine WL.nil ?_
  refine WC.seq ?_
  refine WC.seq ?_
  refine WC.region ?_
  refine WL.y (Yl.move rfl) rfl ?_ -- t6
  refine WL.nil ?_
  refine WC.block ?_
  refine WC.view (fun w h => h.addNil 22 1) ?_
  refine WC.rangeP (α := (Option Addr × Nat) × List Int) (lb := lb) (xs := zs.map encU) (fun _ s => [blkR b2 105 [.slice s.1.1 s.2.length s.1.2], ownR (.slice s.1.1 s.2.length s.1.2) 22 1 s.2.length (ints .u64 s.2)]) (fun i s => i = s.2.map encU) ((none, 0), []) rfl eg encU_size rfl (by repeat (first | exact Take1.head | apply Take1.tail)) rfl (by repeat (first | exact TakeL.nil | (apply TakeL.cons; · repeat (first | exact Take1.head | apply Take1.tail)))) ?_ ?_
  · rintro l2 i x ⟨⟨ao, ca⟩, ys⟩ hx rfl W
    dsimp only at hx ⊢
    have hxm := mem_ofP hx
    obtain ⟨z, _, rfl⟩ := List.mem_map.1 hxm
    have hyl : ys.length < zs.length := by
      obtain ⟨rest, h⟩ := hx
      have := h.length_eq
      simp at this
      omega
    show WC _ _ _ ((7, .int .u64 z) :: _) _ _
    refine WC.region ?_
    refine WL.y (Yl.assign rfl) rfl ?_ -- t5
    refine WL.nil ?_
    repeat (first | (with_reducible refine peelT ?_) | (with_reducible refine peelB ?_) | (with_reducible refine peelTX ?_) | (with_reducible refine peelBX ?_) | (with_reducible refine peelBN ?_) | (with_reducible refine peelBO rfl ?_))
    refine fun W2 => ?_
    refine WC.block ?_
    refine WC.region ?_
    refine WL.y (Yl.load on105 rfl (by repeat (first | exact Take1.head | apply Take1.tail)) (by rfl)) rfl ?_ -- t8
    refine WL.y (Yl.move rfl) rfl ?_ -- t9
    refine WL.to (To.buildSlice (vs := [.int .u64 z]) un105 zs22 rfl rfl (by simp [Value.cells]) (by decide) (by decide)) rfl ?_
    intro b10
    refine WL.to (To.append sl105 rfl rfl (by repeat (first | exact Take1.head | apply Take1.tail)) (Reads.of (RdOf.blk (size := 1) (cs := flat [.int .u64 z]) (cs' := ints .u64 [z]) (Nat.le_refl _) (by unfold maxLen; omega) (by simp [flat, Value.cells]) (by simp [flat, Value.cells, ints])) (by repeat (first | exact Take1.head | apply Take1.tail))) (ints_one _ _) (show ys.length + 1 = (ys ++ [z]).length by simp) (show ints .u64 ys ++ ints .u64 [z] = ints .u64 (ys ++ [z]) by simp [ints]) (by simp; unfold maxLen; omega) (by simp; omega)) rfl ?_ -- t11
    rintro ⟨⟨ao11, c11⟩, hc11⟩
    dsimp only at hc11 ⊢
    refine WL.sto (Sto.one sz105 rfl rfl (by repeat (first | exact Take1.head | apply Take1.tail)) rfl (by rfl) (by rfl)) (fun _ h => nomatch h) ?_ -- st 1
    refine WL.nil ?_
    repeat (first | (with_reducible refine peelT ?_) | (with_reducible refine peelB ?_) | (with_reducible refine peelTX ?_) | (with_reducible refine peelBX ?_) | (with_reducible refine peelBN ?_) | (with_reducible refine peelBO rfl ?_))
    exact ⟨[blkR b2 105 [.slice ao11 (ys ++ [z]).length c11], ownR (.slice ao11 (ys ++ [z]).length c11) 22 1 (ys ++ [z]).length (ints .u64 (ys ++ [z]))], _, (by repeat (first | exact TakeL.nil | (apply TakeL.cons; · repeat (first | exact Take1.head | apply Take1.tail)))), ((ao11, c11), ys ++ [z]), by simp [encU], rfl⟩
  · rintro is ⟨⟨ao, ca⟩, ys⟩ D hperm rfl
    have hp := encU_perm hperm
    dsimp only [List.cons_append, List.nil_append]
    refine WC.seq ?_
    refine WC.region ?_
    refine WL.y (Yl.load on105 rfl (by repeat (first | exact Take1.head | apply Take1.tail)) (by rfl)) rfl ?_ -- t12
    refine WL.y (Yl.assign rfl) rfl ?_ -- t4
    refine WL.nil ?_
    refine WC.ret ?_
    repeat (first | (with_reducible refine peelT ?_) | (with_reducible refine peelB ?_) | (with_reducible refine peelTX ?_) | (with_reducible refine peelBX ?_) | (with_reducible refine peelBN ?_) | (with_reducible refine peelBO rfl ?_))
    refine retM.of (.cons (by repeat (first | exact Take1.head | apply Take1.tail)) .nil) ?_
    exact ret1 (.inr rfl) Try.results68 rfl fun w' h => ⟨((ao, ca), ys), hp, rfl, h.sub (by repeat (first | exact TakeL.nil | (apply TakeL.cons; · repeat (first | exact Take1.head | apply Take1.tail))))⟩
theorem col_any (gf : Nat) (lb : List Value) (own : Nat → Prop) (zs : List Int) (hz : zs.length ≤ 1000000) (eg : ∀ args w, (callFunc gf args).run Try.prog w = .ok (.enter gf args) w) (w : World) (hw : OK w (fpL [itP Try.prog gf lb own (zs.map encU)]) [itP Try.prog gf lb own (zs.map encU)] w) :
    Fn Try.prog 61 [.func (.func gf) #[] lb.toArray] [itP Try.prog gf lb own (zs.map encU)] w (fun y : (Option Addr × Nat) × List Int => y.2.Perm zs) (fun y => .slice y.1.1 y.2.length y.1.2) (fun y => [ownR (.slice y.1.1 y.2.length y.1.2) 22 1 y.2.length (ints .u64 y.2)]) := by
  refine enterF Try.func61 rfl Try.ntmps61 rfl hw ?_
  refine WC.seq ?_
  refine WC.region ?_
  refine WL.y (Yl.assign rfl) rfl ?_ -- t2
  refine WL.nil ?_
  refine WC.seq ?_
  refine WC.region ?_
  refine WL.y (Yl.move rfl) rfl ?_ -- t3
  refine WL.callC (xs := [_, .tmp 3]) (cap := []) rfl rfl en68 (by repeat (first | exact TakeL.nil | (apply TakeL.cons; · repeat (first | exact Take1.head | apply Take1.tail)))) (fun w hw => appSeq_any gf lb own zs hz eg w hw.left.here) rfl ?_ -- t4 slices.AppendSeq[[]uint64,uint64]
  rintro ⟨⟨a4, c4⟩, ys⟩ hp
  dsimp only [List.cons_append, List.nil_append]
  refine WL.y (Yl.assign rfl) rfl ?_ -- t2
  refine WL.nil ?_
  refine WC.ret ?_
  repeat (first | (with_reducible refine peelT ?_) | (with_reducible refine peelB ?_) | (with_reducible refine peelTX ?_) | (with_reducible refine peelBX ?_) | (with_reducible refine peelBN ?_) | (with_reducible refine peelBO rfl ?_))
  exact ret1 (.inr rfl) Try.results61 rfl fun w' h => ⟨((a4, c4), ys), hp, rfl, h.sub (by repeat (first | exact TakeL.nil | (apply TakeL.cons; · repeat (first | exact Take1.head | apply Take1.tail))))⟩
end Go.Proofs.Ytklbmgfpnafdlaa
