/- Records: whether they may be; the reference's numbers and ids: the walks. -/
import Derived.Test.YtnmeoleahcnnkaaRecP
namespace Go.Proofs.Ytnmeoleahcnnkaa
open Go Go.RowKit

theorem of_any (bs : List Int) (v : Value) (hB : Bytes bs) (h8 : bs.length ≤ 8) (w : World) (hx : RdS w (fpL []) v 1 bs.length (ints .u8 bs)) (hw : OK w (fpL []) [] w) :
    Fn Try.prog 29 [v] [] w (fun _ : Unit => True) (fun _ => .int .u64 (val bs)) (fun _ => []) := by
  obtain ⟨al, cl, rfl, hcl, hml⟩ := hx.rd.form
  refine enterF Try.func29 rfl Try.ntmps29 rfl hw ?_
  refine WC.seq ?_
  refine WC.region ?_
  refine WL.y (Yl.assign rfl) rfl ?_ -- t2
  refine WL.nil ?_
  refine WC.seq ?_
  refine WC.region ?_
  refine WL.y (Yl.assign rfl) rfl ?_ -- t3
  refine WL.nil ?_
  refine WC.seq ?_
  refine WC.seq ?_
  refine WC.region ?_
  refine WL.y (Yl.assign rfl) rfl ?_ -- t4
  refine WL.nil ?_
  refine WC.block ?_
  refine WC.loop (α := Nat) (fun j => [(0, .slice al bs.length cl), (3, .int .u64 (val (bs.take j))), (4, .int .i64 (j : Int))]) (fun _ => []) (fun j => j ≤ bs.length) (fun j => bs.length - j) 0 (Nat.zero_le _) ⟨(by repeat (first | exact Sub.nil | refine Sub.cons rfl ?_)), _, (by repeat (first | exact TakeL.nil | (apply TakeL.cons; · repeat (first | exact Take1.head | apply Take1.tail))))⟩ ?_
  intro j hj
  refine WC.seq ?_
  refine WC.seq ?_
  refine WC.region ?_
  refine WL.y (Yl.move rfl) rfl ?_ -- t5
  refine WL.y (Yl.move rfl) rfl ?_ -- t6
  refine WL.y (Yl.len un22 rfl) rfl ?_ -- t7
  refine WL.y (Yl.lss rfl rfl) rfl ?_ -- t8
  refine WL.nil ?_
  refine WC.condD rfl (fun g8 => ?_) (fun g8 => ?_)
  · refine WC.skip ?_
    refine WC.seq ?_
    refine WC.block ?_
    refine WC.region ?_
    refine WL.y (Yl.move rfl) rfl ?_ -- t11
    have hx2 := hB.getD (i := j) (by omega)
    have hv := val_range (hB.take j)
    have hp := pow256 (n := (bs.take j).length + 1) (by simp; omega)
    rw [Int.pow_succ] at hp
    refine WL.y (Yl.mul rfl rfl (u64_in _ (by omega))) rfl ?_
    refine WL.y (Yl.move rfl) rfl ?_ -- t13
    refine WL.y (Yl.move rfl) rfl ?_ -- t14
    refine WL.y (Yl.index un22 sz5 rfl rfl (Reads.s hx) rfl (by omega)) rfl ?_ -- t15
    refine WL.y (Yl.loadE on5 rfl (Reads.s hx) (ints_get .u8 bs j (by omega))) rfl ?_ -- t16
    refine WL.y (Yl.conv un5 un65 rfl (u64_in _ (by omega))) rfl ?_ -- t17
    refine WL.y (Yl.add rfl rfl (u64_in _ (by omega))) rfl ?_
    refine WL.say (t := 18) (v' := .int .u64 (val (bs.take (j + 1)))) rfl (by rw [take_getD (show j < bs.length by omega), val_snoc, Int.mul_comm]) ?_
    refine WL.y (Yl.assign rfl) rfl ?_ -- t3
    refine WL.nil ?_
    refine WC.region ?_
    refine WL.y (Yl.move rfl) rfl ?_ -- t9
    refine WL.y (Yl.add rfl rfl (IntWalk.i64_in _ (by omega))) rfl ?_ -- t10
    refine WL.y (Yl.assign rfl) rfl ?_ -- t4
    refine WL.nil ?_
    exact ⟨rfl, j + 1, by omega, by omega, (by repeat (first | exact Sub.nil | refine Sub.cons rfl ?_)), _, (by repeat (first | exact TakeL.nil | (apply TakeL.cons; · repeat (first | exact Take1.head | apply Take1.tail))))⟩
  · refine WC.exit ?_
    refine WC.seq ?_
    refine WC.region ?_
    refine WL.y (Yl.move rfl) rfl ?_ -- t19
    refine WL.y (Yl.assign rfl) rfl ?_ -- t2
    refine WL.nil ?_
    refine WC.ret ?_
    repeat (first | (with_reducible refine peelT ?_) | (with_reducible refine peelB ?_) | (with_reducible refine peelTX ?_) | (with_reducible refine peelBX ?_) | (with_reducible refine peelBN ?_) | (with_reducible refine peelBO rfl ?_))
    have hj2 : j = bs.length := by omega
    subst hj2
    exact ret1 (.inr rfl) Try.results29 rfl fun w' h => ⟨(), trivial, by rw [List.take_length], h.sub (by repeat (first | exact TakeL.nil | (apply TakeL.cons; · repeat (first | exact Take1.head | apply Take1.tail))))⟩

theorem ofId_any (bs : List Int) (v : Value) (hl : 16 ≤ bs.length) (w : World) (hx : RdS w (fpL []) v 1 bs.length (ints .u8 bs)) (hw : OK w (fpL []) [] w) :
    Fn Try.prog 27 [v] [] w (fun _ : Unit => True) (fun _ => .agg (ints .u8 (bs.take 16)).toArray) (fun _ => []) := by
  obtain ⟨al, cl, rfl, hcl, hml⟩ := hx.rd.form
  refine enterF Try.func27 rfl Try.ntmps27 rfl hw ?_
  refine WC.seq ?_
  refine WC.region ?_
  refine WL.to (To.alloc zr27 rfl) rfl ?_ -- t2
  intro b2
  refine WL.nil ?_
  refine WC.seq ?_
  refine WC.region ?_
  refine WL.to (To.alloc zr27 rfl) rfl ?_ -- t3
  intro b3
  refine WL.nil ?_
  refine WC.seq ?_
  refine WC.seq ?_
  refine WC.region ?_
  refine WL.y (Yl.assign rfl) rfl ?_ -- t4
  refine WL.nil ?_
  refine WC.block ?_
  refine WC.loop (α := Nat) (fun j => [(0, .slice al bs.length cl), (2, .pointer (some ⟨b2, 0, none⟩)), (3, .pointer (some ⟨b3, 0, none⟩)), (4, .int .i64 (j : Int))]) (fun j => [blkR b3 27 (ints .u8 (bs.take j ++ List.replicate (16 - j) 0)), blkR b2 27 (List.replicate 16 (.int .u8 0))]) (fun j => j ≤ 16) (fun j => 16 - j) 0 (Nat.zero_le _) ⟨(by repeat (first | exact Sub.nil | refine Sub.cons rfl ?_)), _, (by repeat (first | exact TakeL.nil | (apply TakeL.cons; · repeat (first | exact Take1.head | apply Take1.tail))))⟩ ?_
  intro j hj
  have hlen : (ints .u8 (bs.take j ++ List.replicate (16 - j) 0)).length = 16 := by simp [ints]; omega
  refine WC.seq ?_
  refine WC.seq ?_
  refine WC.region ?_
  refine WL.y (Yl.move rfl) rfl ?_ -- t5
  refine WL.y (Yl.lss rfl rfl) rfl ?_ -- t6
  refine WL.nil ?_
  refine WC.condD rfl (fun g6 => ?_) (fun g6 => ?_)
  · refine WC.skip ?_
    refine WC.seq ?_
    refine WC.block ?_
    refine WC.region ?_
    refine WL.y (Yl.move rfl) rfl ?_ -- t9
    refine WL.y (Yl.move rfl) rfl ?_ -- t10
    refine WL.y (Yl.move rfl) rfl ?_ -- t11
    refine WL.y (Yl.index un22 sz5 rfl rfl (Reads.s hx) rfl (by omega)) rfl ?_ -- t12
    refine WL.y (Yl.loadE on5 rfl (Reads.s hx) (ints_get .u8 bs j (by omega))) rfl ?_ -- t13
    refine WL.y (Yl.indexA un27 sz5 rfl rfl rfl (by omega)) rfl ?_ -- t14
    refine WL.sto (Sto.one sz5 rfl rfl (by repeat (first | exact Take1.head | apply Take1.tail)) rfl (cs' := ints .u8 (bs.take (j + 1) ++ List.replicate (16 - (j + 1)) 0)) (ltB (by rw [hlen]; omega)) (ofId_step (by omega) (by omega))) (fun _ h => nomatch h) ?_
    refine WL.nil ?_
    refine WC.region ?_
    refine WL.y (Yl.move rfl) rfl ?_ -- t7
    refine WL.y (Yl.add rfl rfl (IntWalk.i64_in _ (by omega))) rfl ?_ -- t8
    refine WL.y (Yl.assign rfl) rfl ?_ -- t4
    refine WL.nil ?_
    exact ⟨rfl, j + 1, by omega, by omega, (by repeat (first | exact Sub.nil | refine Sub.cons rfl ?_)), _, (by repeat (first | exact TakeL.nil | (apply TakeL.cons; · repeat (first | exact Take1.head | apply Take1.tail))))⟩
  · refine WC.exit ?_
    refine WC.seq ?_
    refine WC.region ?_
    refine WL.y (Yl.loadN ag27 rfl (by repeat (first | exact Take1.head | apply Take1.tail)) (leB (by rw [hlen]; omega)) (show _ = ints .u8 (bs.take 16) by rw [List.drop_zero, List.take_of_length_le (by rw [hlen]; omega), show j = 16 by omega]; simp)) rfl ?_ -- t15
    refine WL.sto (Sto.agg sz27 rfl rfl (by repeat (first | exact Take1.head | apply Take1.tail)) (ints_one _ _) (by simp [ints]; omega) (by rfl) (he := (by rfl))) (fun _ h => nomatch h) ?_ -- st 2
    refine WL.nil ?_
    refine WC.ret ?_
    repeat (first | (with_reducible refine peelT ?_) | (with_reducible refine peelB ?_) | (with_reducible refine peelTX ?_) | (with_reducible refine peelBX ?_) | (with_reducible refine peelBN ?_) | (with_reducible refine peelBO rfl ?_))
    refine retC1 (.inr rfl) Try.results27 ag27 rfl (by repeat (first | exact Take1.head | apply Take1.tail)) (by simp [ints]; omega) fun w' h => ⟨(), trivial, ?_, h.sub (by repeat (first | exact TakeL.nil | (apply TakeL.cons; · repeat (first | exact Take1.head | apply Take1.tail))))⟩
    simp [List.drop_of_length_le]
end Go.Proofs.Ytnmeoleahcnnkaa
