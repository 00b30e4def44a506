/- A map's keys, ascending: the walks. -/
import Derived.Test.YtklbmgfpnafdlaaJitNU
import Derived.Test.YtklbmgfpnafdlaaJitO
import Derived.Test.YtklbmgfpnafdlaaSoLV
import Derived.Test.YtklbmgfpnafdlaaLibR
namespace Go.Proofs.Ytklbmgfpnafdlaa
open Go Go.RowKit

theorem asc_eq {xs zs : List Int} (h : xs.Perm zs) : asc xs = asc zs := by
  have hp : (asc xs).Perm (asc zs) := (asc_perm xs).trans (h.trans (asc_perm zs).symm)
  exact hp.eq_of_pairwise (fun a b _ _ h1 h2 => by omega) (asc_sorted xs) (asc_sorted zs)
theorem sorted_any (gf : Nat) (lb : List Value) (own : Nat → Prop) (zs : List Int) (hz : zs.length ≤ 1000000) (eg : ∀ args w, (callFunc gf args).run Try.prog w = .ok (.enter gf args) w) (w : World) (hw : OK w (fpL [itP Try.prog gf lb own (zs.map encU)]) [itP Try.prog gf lb own (zs.map encU)] w) :
    Fn Try.prog 45 [.func (.func gf) #[] lb.toArray] [itP Try.prog gf lb own (zs.map encU)] w (fun _ : Option Addr × Nat => True) (fun y => .slice y.1 (asc zs).length y.2) (fun y => [ownR (.slice y.1 (asc zs).length y.2) 22 1 (asc zs).length (ints .u64 (asc zs))]) := by
  refine enterF Try.func45 rfl Try.ntmps45 rfl hw ?_
  refine WC.seq ?_
  refine WC.region ?_
  refine WL.y (Yl.assign rfl) rfl ?_ -- t2
  refine WL.nil ?_
  refine WC.seq ?_
  refine WC.region ?_
  refine WL.y (Yl.move rfl) rfl ?_ -- t4
  refine WL.callC (xs := [.tmp 4]) (cap := []) rfl rfl en61 (by repeat (first | exact TakeL.nil | (apply TakeL.cons; · repeat (first | exact Take1.head | apply Take1.tail)))) (fun w hw => col_any gf lb own zs hz eg w hw.left.here) rfl ?_ -- t5 slices.Collect[uint64]
  rintro ⟨⟨a5, c5⟩, ys⟩ hp
  dsimp only at hp
  dsimp only [List.cons_append, List.nil_append]
  have hyl := hp.length_eq
  refine WL.y (Yl.assign rfl) rfl ?_ -- t3
  refine WL.nil ?_
  refine WC.seq ?_
  refine WC.region ?_
  refine WL.y (Yl.move rfl) rfl ?_ -- t6
  refine WL.callC (xs := [.tmp 6]) (cap := []) rfl rfl en62 (by repeat (first | exact TakeL.nil | (apply TakeL.cons; · repeat (first | exact Take1.head | apply Take1.tail)))) (fun w hw => sortV_any a5 c5 ys (by omega) w hw.left.here) rfl ?_ -- t7 slices.Sort[[]uint64,uint64]
  rintro ⟨⟩ -
  rw [asc_eq hp, show ys.length = (asc zs).length by rw [asc_len, hyl]]
  dsimp only [List.cons_append, List.nil_append]
  refine WL.nil ?_
  refine WC.seq ?_
  refine WC.region ?_
  refine WL.y (Yl.move rfl) rfl ?_ -- t8
  refine WL.y (Yl.assign rfl) rfl ?_ -- t2
  refine WL.nil ?_
  refine WC.ret ?_
  repeat (first | (with_reducible refine peelT ?_) | (with_reducible refine peelB ?_) | (with_reducible refine peelTX ?_) | (with_reducible refine peelBX ?_) | (with_reducible refine peelBN ?_) | (with_reducible refine peelBO rfl ?_))
  exact ret1 (.inr rfl) Try.results45 rfl fun w' h => ⟨(a5, c5), trivial, rfl, h.sub (by repeat (first | exact TakeL.nil | (apply TakeL.cons; · repeat (first | exact Take1.head | apply Take1.tail))))⟩
theorem ksY_enc (m : List (Int × Value)) : ksY m = (m.map (·.1)).map encU := by
  simp [ksY, encU]
theorem keysU_any (bm : Nat) (m : List (Int × Value)) (w : World) (hw : OK w (fpL [roR (mapR (Value.int .u64) vI bm m)]) [roR (mapR (Value.int .u64) vI bm m)] w) :
    Fn Try.prog 46 [.map (some bm)] [roR (mapR (Value.int .u64) vI bm m)] w (fun _ : Nat × (Nat → Prop) => True) (fun y => .func (.func 63) #[] #[.pointer (some ⟨y.1, 0, none⟩)]) (fun y => [itP Try.prog 63 [.pointer (some ⟨y.1, 0, none⟩)] y.2 ((m.map (·.1)).map encU)]) := by
  refine enterF Try.func46 rfl Try.ntmps46 rfl hw ?_
  refine WC.seq ?_
  refine WC.region ?_
  refine WL.to (To.box (cs := [.map (some bm)]) rfl rfl) rfl ?_ -- t1
  intro b1
  refine WL.y (Yl.assign rfl) rfl ?_ -- t2
  refine WL.nil ?_
  refine WC.seq ?_
  refine WC.region ?_
  refine WL.y (Yl.makeFunc (xs := []) (ys := [.tmp 1]) rfl rfl) rfl ?_ -- t3
  refine WL.y (Yl.assign rfl) rfl ?_ -- t2
  refine WL.nil ?_
  refine WC.ret ?_
  repeat (first | (with_reducible refine peelT ?_) | (with_reducible refine peelB ?_) | (with_reducible refine peelTX ?_) | (with_reducible refine peelBX ?_) | (with_reducible refine peelBN ?_) | (with_reducible refine peelBO rfl ?_))
  refine ret1 (.inr rfl) Try.results46 rfl fun w' hh => ⟨(b1, (fpL [roR (blkR b1 63 [.map (some bm)]), roR (mapR (Value.int .u64) vI bm m)]).rd), trivial, rfl, ?_⟩
  have hA : OK w _ ([blkR b1 63 [.map (some bm)], roR (mapR (Value.int .u64) vI bm m)] ++ []) w' := hh.sub (by repeat (first | exact TakeL.nil | (apply TakeL.cons; · repeat (first | exact Take1.head | apply Take1.tail))))
  have hro : OK w _ ([roR (blkR b1 63 [.map (some bm)]), roR (mapR (Value.int .u64) vI bm m)] ++ []) w' := hA.roOne .head
  have hi := keys1U_iter b1 bm m w' hro.here
  rw [ksY_enc] at hi
  exact hro.toIterP hi (fun k hk => hk)
end Go.Proofs.Ytklbmgfpnafdlaa
