/- The machines: the walks. -/
import Derived.Test.YtfdnnlcfolgegaaShaK
namespace Go.Proofs.Ytfdnnlcfolgegaa
open Go Go.RowKit
theorem first_any (w : World) (hw : OK w (fpL []) [] w) : Fn Try.prog 78 [] [] w (fun _ : Nat => True) (fun b => .slice (some ⟨b, 0, none⟩) 8 8) (fun b => [ownR (.slice (some ⟨b, 0, none⟩) 8 8) 24 1 8 (ints .u64 first64)]) := by
  refine enterF Try.func78 rfl Try.ntmps78 rfl hw ?_
  refine WC.seq ?_
  refine WC.region ?_
  refine WL.y (Yl.assign rfl) rfl ?_ -- t0
  refine WL.nil ?_
  refine WC.seq ?_
  refine WC.region ?_
  refine WL.to (To.buildSlice (vs := ints .u64 first64) un97 zs24 rfl rfl (ints_size _ _) (by decide) (by decide)) rfl ?_
  intro b1
  rw [flat_ints]
  refine WL.view (fun w h => h.blkOwn (b := b1) (size := 1) (n := 8) (by repeat (first | exact Take1.head | apply Take1.tail)) (by unfold maxLen; omega) rfl) ?_
  refine WL.y (Yl.assign rfl) rfl ?_ -- t0
  refine WL.nil ?_
  refine WC.ret ?_
  repeat (first | (with_reducible refine peelT ?_) | (with_reducible refine peelB ?_) | (with_reducible refine peelTX ?_) | (with_reducible refine peelBX ?_) | (with_reducible refine peelBN ?_) | (with_reducible refine peelBO rfl ?_))
  exact ret1 (.inr rfl) Try.results78 rfl fun w' h => ⟨b1, trivial, rfl, h.sub (by repeat (first | exact TakeL.nil | (apply TakeL.cons; · repeat (first | exact Take1.head | apply Take1.tail))))⟩
theorem rfirst_any (w : World) (hw : OK w (fpL []) [] w) : Fn Try.prog 65 [] [] w (fun _ : Nat => True) (fun b => .slice (some ⟨b, 0, none⟩) 8 8) (fun b => [ownR (.slice (some ⟨b, 0, none⟩) 8 8) 24 1 8 (ints .u64 first64)]) := by
  refine enterF Try.func65 rfl Try.ntmps65 rfl hw ?_
  refine WC.seq ?_
  refine WC.region ?_
  refine WL.y (Yl.assign rfl) rfl ?_ -- t0
  refine WL.nil ?_
  refine WC.seq ?_
  refine WC.region ?_
  refine WL.to (To.buildSlice (vs := ints .u64 first64) un97 zs24 rfl rfl (ints_size _ _) (by decide) (by decide)) rfl ?_
  intro b1
  rw [flat_ints]
  refine WL.view (fun w h => h.blkOwn (b := b1) (size := 1) (n := 8) (by repeat (first | exact Take1.head | apply Take1.tail)) (by unfold maxLen; omega) rfl) ?_
  refine WL.y (Yl.assign rfl) rfl ?_ -- t0
  refine WL.nil ?_
  refine WC.ret ?_
  repeat (first | (with_reducible refine peelT ?_) | (with_reducible refine peelB ?_) | (with_reducible refine peelTX ?_) | (with_reducible refine peelBX ?_) | (with_reducible refine peelBN ?_) | (with_reducible refine peelBO rfl ?_))
  exact ret1 (.inr rfl) Try.results65 rfl fun w' h => ⟨b1, trivial, rfl, h.sub (by repeat (first | exact TakeL.nil | (apply TakeL.cons; · repeat (first | exact Take1.head | apply Take1.tail))))⟩
theorem consts_any (w : World) (hw : OK w (fpL []) [] w) : Fn Try.prog 79 [] [] w (fun _ : Nat => True) (fun b => .slice (some ⟨b, 0, none⟩) 80 80) (fun b => [ownR (.slice (some ⟨b, 0, none⟩) 80 80) 24 1 80 (ints .u64 const64)]) := by
  refine enterF Try.func79 rfl Try.ntmps79 rfl hw ?_
  refine WC.seq ?_
  refine WC.region ?_
  refine WL.y (Yl.assign rfl) rfl ?_ -- t0
  refine WL.nil ?_
  refine WC.seq ?_
  refine WC.region ?_
  refine WL.to (To.buildSlice (vs := ints .u64 const64) un97 zs24 rfl rfl (ints_size _ _) (by decide) (by decide)) rfl ?_
  intro b1
  rw [flat_ints]
  refine WL.view (fun w h => h.blkOwn (b := b1) (size := 1) (n := 80) (by repeat (first | exact Take1.head | apply Take1.tail)) (by unfold maxLen; omega) rfl) ?_
  refine WL.y (Yl.assign rfl) rfl ?_ -- t0
  refine WL.nil ?_
  refine WC.ret ?_
  repeat (first | (with_reducible refine peelT ?_) | (with_reducible refine peelB ?_) | (with_reducible refine peelTX ?_) | (with_reducible refine peelBX ?_) | (with_reducible refine peelBN ?_) | (with_reducible refine peelBO rfl ?_))
  exact ret1 (.inr rfl) Try.results79 rfl fun w' h => ⟨b1, trivial, rfl, h.sub (by repeat (first | exact TakeL.nil | (apply TakeL.cons; · repeat (first | exact Take1.head | apply Take1.tail))))⟩
theorem rconsts_any (w : World) (hw : OK w (fpL []) [] w) : Fn Try.prog 66 [] [] w (fun _ : Nat => True) (fun b => .slice (some ⟨b, 0, none⟩) 80 80) (fun b => [ownR (.slice (some ⟨b, 0, none⟩) 80 80) 24 1 80 (ints .u64 const64)]) := by
  refine enterF Try.func66 rfl Try.ntmps66 rfl hw ?_
  refine WC.seq ?_
  refine WC.region ?_
  refine WL.y (Yl.assign rfl) rfl ?_ -- t0
  refine WL.nil ?_
  refine WC.seq ?_
  refine WC.region ?_
  refine WL.to (To.buildSlice (vs := ints .u64 const64) un97 zs24 rfl rfl (ints_size _ _) (by decide) (by decide)) rfl ?_
  intro b1
  rw [flat_ints]
  refine WL.view (fun w h => h.blkOwn (b := b1) (size := 1) (n := 80) (by repeat (first | exact Take1.head | apply Take1.tail)) (by unfold maxLen; omega) rfl) ?_
  refine WL.y (Yl.assign rfl) rfl ?_ -- t0
  refine WL.nil ?_
  refine WC.ret ?_
  repeat (first | (with_reducible refine peelT ?_) | (with_reducible refine peelB ?_) | (with_reducible refine peelTX ?_) | (with_reducible refine peelBX ?_) | (with_reducible refine peelBN ?_) | (with_reducible refine peelBO rfl ?_))
  exact ret1 (.inr rfl) Try.results66 rfl fun w' h => ⟨b1, trivial, rfl, h.sub (by repeat (first | exact TakeL.nil | (apply TakeL.cons; · repeat (first | exact Take1.head | apply Take1.tail))))⟩

theorem upF_len (xs : List Int) : (upF xs).length = xs.length := by simp [upF]
theorem upF_step {xs : List Int} {j : Nat} (h : j < xs.length) : ints .u32 (upF (xs.take j)) ++ [.int .u32 (IntKind.u32.wrap (xs.getD j 0 / 2 ^ (32 : Int).toNat))] = ints .u32 (upF (xs.take (j + 1))) := by
  rw [ints_snoc, take_getD' h]
  simp [upF]
where
  take_getD' {xs : List Int} {j : Nat} (h : j < xs.length) : xs.take (j + 1) = xs.take j ++ [xs.getD j 0] := by
    rw [List.take_add_one]
    simp [h]

theorem upper_any (xs : List Int) (v : Value) (hl : xs.length ≤ 100) (w : World) (hx : RdS w (fpL []) v 1 xs.length (ints .u64 xs)) (hw : OK w (fpL []) [] w) :
    Fn Try.prog 77 [v] [] w (fun y : Option Addr × Nat => True) (fun y => .slice y.1 xs.length y.2) (fun y => [ownR (.slice y.1 xs.length y.2) 103 1 xs.length (ints .u32 (upF xs))]) := by
  obtain ⟨al, cl, rfl, hcl, hml⟩ := hx.rd.form
  refine enterF Try.func77 rfl Try.ntmps77 rfl hw ?_
  refine WC.seq ?_
  refine WC.region ?_
  refine WL.y (Yl.assign rfl) rfl ?_ -- t2
  refine WL.nil ?_
  refine WC.seq ?_
  refine WC.region ?_
  refine WL.y (Yl.assign rfl) rfl ?_ -- t3
  refine WL.nil ?_
  refine WC.seq ?_
  refine WC.seq ?_
  refine WC.region ?_
  refine WL.y (Yl.move rfl) rfl ?_ -- t6
  refine WL.y (Yl.len un97 rfl) rfl ?_ -- t7
  refine WL.y (Yl.move rfl) rfl ?_ -- t8
  refine WL.nil ?_
  refine WC.block ?_
  refine WC.view (fun w h => h.addNil 103 1) ?_
  refine WC.loop (α := Nat × (Option Addr × Nat)) (fun p => [(6, .slice al xs.length cl), (7, .int .i64 (xs.length : Int)), (8, .int .i64 (p.1 : Int)), (3, .slice p.2.1 p.1 p.2.2)]) (fun p => [ownR (.slice p.2.1 p.1 p.2.2) 103 1 p.1 (ints .u32 (upF (xs.take p.1)))]) (fun p => p.1 ≤ xs.length) (fun p => xs.length - p.1) (0, none, 0) (Nat.zero_le _) ⟨(by repeat (first | exact Sub.nil | refine Sub.cons rfl ?_)), _, (by repeat (first | exact TakeL.nil | (apply TakeL.cons; · repeat (first | exact Take1.head | apply Take1.tail))))⟩ ?_
  rintro ⟨j, ao, c⟩ hj
  dsimp only at hj ⊢
  refine WC.seq ?_
  refine WC.region ?_
  refine WL.y (Yl.lss rfl rfl) rfl ?_ -- t9
  refine WL.nil ?_
  refine WC.seq ?_
  refine WC.condD rfl (fun g9 => ?_) (fun g9 => ?_)
  · refine WC.skip ?_
    refine WC.seq ?_
    refine WC.block ?_
    refine WC.seq ?_
    refine WC.region ?_
    refine WL.y (Yl.index un97 sz24 rfl rfl (Reads.s hx) rfl (by omega)) rfl ?_ -- t10
    refine WL.y (Yl.loadE on24 rfl (Reads.s hx) (ints_get _ xs j (by omega))) rfl ?_ -- t11
    refine WL.y (Yl.assign rfl) rfl ?_ -- t5
    refine WL.nil ?_
    refine WC.region ?_
    refine WL.y (Yl.move rfl) rfl ?_ -- t12
    refine WL.y (Yl.move rfl) rfl ?_ -- t13
    refine WL.y (Yl.shr rfl rfl ⟨by omega, (by simp [IntKind.bits]; try omega)⟩ rfl) rfl ?_ -- t14
    refine WL.y (Yl.conv un24 un103 rfl rfl) rfl ?_ -- t15
    refine WL.to (To.buildSlice (vs := [.int .u32 (IntKind.u32.wrap (xs.getD j 0 / 2 ^ (32 : Int).toNat))]) un115 zs103 rfl rfl (by simp [Value.cells]) (by decide) (by decide)) rfl ?_ -- t16
    intro b16
    refine WL.to (To.append sl115 rfl rfl (by repeat (first | exact Take1.head | apply Take1.tail)) (Reads.of (RdOf.blk (size := 1) (cs := [.int .u32 (IntKind.u32.wrap (xs.getD j 0 / 2 ^ (32 : Int).toNat))]) (cs' := [.int .u32 (IntKind.u32.wrap (xs.getD j 0 / 2 ^ (32 : Int).toNat))]) (Nat.le_refl _) (by unfold maxLen; omega) (by simp) rfl) (by repeat (first | exact Take1.head | apply Take1.tail))) (by intro v hv; rw [List.mem_singleton.1 hv]; rfl) rfl (upF_step (by omega)) (by unfold maxLen; omega) (by omega)) rfl ?_ -- t17
    rintro ⟨⟨ao17, c17⟩, hc17⟩
    dsimp only at hc17 ⊢
    refine WL.y (Yl.assign rfl) rfl ?_ -- t3
    refine WL.nil ?_
    refine WC.region ?_
    refine WL.y (Yl.add rfl rfl (IntWalk.i64_in _ (by omega))) rfl ?_ -- t18
    refine WL.y (Yl.move rfl) rfl ?_ -- t8
    refine WL.nil ?_
    exact ⟨rfl, (j + 1, ao17, c17), by dsimp only; omega, by dsimp only; omega, (by repeat (first | exact Sub.nil | refine Sub.cons rfl ?_)), _, (by repeat (first | exact TakeL.nil | (apply TakeL.cons; · repeat (first | exact Take1.head | apply Take1.tail))))⟩
  · refine WC.exit ?_
    refine WC.seq ?_
    refine WC.region ?_
    refine WL.y (Yl.move rfl) rfl ?_ -- t19
    refine WL.y (Yl.assign rfl) rfl ?_ -- t2
    refine WL.nil ?_
    refine WC.ret ?_
    repeat (first | (with_reducible refine peelT ?_) | (with_reducible refine peelB ?_) | (with_reducible refine peelTX ?_) | (with_reducible refine peelBX ?_) | (with_reducible refine peelBN ?_) | (with_reducible refine peelBO rfl ?_))
    have hj2 : j = xs.length := by omega
    subst hj2
    exact ret1 (.inr rfl) Try.results77 rfl fun w' h => ⟨(ao, c), trivial, rfl, by rw [List.take_length] at h; exact h.sub (by repeat (first | exact TakeL.nil | (apply TakeL.cons; · repeat (first | exact Take1.head | apply Take1.tail))))⟩
end Go.Proofs.Ytfdnnlcfolgegaa
