/- Records in a row: the iterator over them, the reference's list: the walks. -/
import Derived.Test.YtpjgmiemamcdhaaRecC
import Derived.Test.YtpjgmiemamcdhaaRecR
import Derived.Test.YtpjgmiemamcdhaaLibY
namespace Go.Proofs.Ytpjgmiemamcdhaa
open Go Go.RowKit
theorem rall_any (bs : List Int) (v : Value) (hB : Bytes bs) (hsz : bs.length ≤ 1000000) (w : World) (hx : RdS w (fpL []) v 1 bs.length (ints .u8 bs)) (hw : OK w (fpL []) [] w) :
    Fn Try.prog 56 [v] [] w (fun y : Option Addr × Nat => recN bs ≤ y.2) (fun y => .slice y.1 (recN bs) y.2) (fun y => [ownR (.slice y.1 (recN bs) y.2) 46 22 (recN bs) (recCells bs (recN bs))]) := by
  obtain ⟨al, cl, rfl, hcl, hml⟩ := hx.rd.form
  refine enterF Try.func56 rfl Try.ntmps56 rfl hw ?_
  refine WC.seq ?_
  refine WC.region ?_
  refine WL.y (Yl.assign rfl) rfl ?_ -- t2
  refine WL.nil ?_
  refine WC.seq ?_
  refine WC.region ?_
  refine WL.y (Yl.assign rfl) rfl ?_ -- t3
  refine WL.nil ?_
  refine WC.seq ?_
  refine WC.seq ?_
  refine WC.region ?_
  refine WL.y (Yl.assign rfl) rfl ?_ -- t4
  refine WL.nil ?_
  refine WC.block ?_
  refine WC.view (fun w h => h.addNil 46 22) ?_
  refine WC.loop (α := Nat × (Option Addr × Nat)) (fun p => [(0, .slice al bs.length cl), (3, .slice p.2.1 p.1 p.2.2), (4, .int .i64 ((43 * p.1 : Nat) : Int))]) (fun p => [ownR (.slice p.2.1 p.1 p.2.2) 46 22 p.1 (recCells bs p.1)]) (fun p => p.1 ≤ recN bs ∧ p.1 ≤ p.2.2) (fun p => recN bs - p.1) (0, none, 0) ⟨Nat.zero_le _, Nat.le_refl _⟩ ⟨(by repeat (first | exact Sub.nil | refine Sub.cons rfl ?_)), _, (by repeat (first | exact TakeL.nil | (apply TakeL.cons; · repeat (first | exact Take1.head | apply Take1.tail))))⟩ ?_
  rintro ⟨i, ao, c⟩ ⟨hi, hic⟩
  dsimp only at hi hic ⊢
  have hbi := recN_le bs
  refine WC.seq ?_
  refine WC.seq ?_
  refine WC.region ?_
  refine WL.y (Yl.move rfl) rfl ?_ -- t7
  refine WL.y (Yl.add rfl rfl (IntWalk.i64_in _ (by omega))) rfl ?_ -- t8
  refine WL.y (Yl.move rfl) rfl ?_ -- t9
  refine WL.y (Yl.len un56 rfl) rfl ?_ -- t10
  refine WL.y (Yl.leq rfl rfl) rfl ?_ -- t11
  refine WL.nil ?_
  refine WC.condD rfl (fun g11 => ?_) (fun g11 => ?_)
  · refine WC.skip ?_
    refine WC.seq ?_
    refine WC.block ?_
    refine WC.seq ?_
    refine WC.region ?_
    have hfit : 43 * i + 43 ≤ bs.length := by omega
    have hcl43 := chunk_len hfit
    have hrl := (recT_ok (chunk_bytes hB i)).len
    refine WL.y (Yl.move rfl) rfl ?_ -- t15
    refine WL.y (Yl.move rfl) rfl ?_ -- t16
    refine WL.y (Yl.move rfl) rfl ?_ -- t17
    refine WL.y (Yl.add rfl rfl (IntWalk.i64_in _ (by omega))) rfl ?_ -- t18
    refine WL.say (t := 18) (v' := .int .i64 ((43 * i + 43 : Nat) : Int)) rfl (by rfl) ?_
    refine WL.y (Yl.slice un56 sz5 rfl ⟨_, rfl⟩ ⟨_, rfl⟩ (by omega) (by omega)) rfl ?_ -- t19
    refine WL.callC (xs := [.tmp 19]) (cap := []) rfl rfl en80 (by repeat (first | exact TakeL.nil | (apply TakeL.cons; · repeat (first | exact Take1.head | apply Take1.tail)))) (fun w hw => rtake_any (chunk bs i) _ (chunk_bytes hB i) (by omega) w ((hw.srcS (A := []) hx).chunk hfit) hw.left.here) rfl ?_ -- t20 hailer/hailerref11.Take
    rintro ⟨⟩ -
    refine WL.y (Yl.move rfl) rfl ?_ -- t14
    refine WL.y (Yl.extract rfl rfl) rfl ?_ -- t21
    refine WL.y (Yl.extract rfl rfl) rfl ?_ -- t22
    refine WL.to (To.alloc zr46 rfl) rfl ?_ -- t5
    intro b5
    refine WL.sto (Sto.agg sz46 rfl rfl (by repeat (first | exact Take1.head | apply Take1.tail)) (Rc.ones _) (Rc.cells_len hrl) (by rfl) (Rc.all (r := Rc.zero) rfl (recT (chunk bs i)).1.cells (Rc.cells_len hrl))) (fun _ h => nomatch h) ?_ -- st 1
    refine WL.y (Yl.assign rfl) rfl ?_ -- t6
    refine WL.nil ?_
    refine WC.seq ?_
    refine WC.seq ?_
    refine WC.region ?_
    refine WL.y (Yl.move rfl) rfl ?_ -- t23
    refine WL.y (Yl.not rfl) rfl ?_ -- t24
    refine WL.nil ?_
    refine WC.cond rfl (fun g24 => ?_) (fun g24 => ?_)
    · refine WC.seq ?_
      refine WC.region ?_
      refine WL.y (Yl.move rfl) rfl ?_ -- t25
      refine WL.y (Yl.assign rfl) rfl ?_ -- t2
      refine WL.nil ?_
      refine WC.ret ?_
      repeat (first | (with_reducible refine peelT ?_) | (with_reducible refine peelB ?_) | (with_reducible refine peelTX ?_) | (with_reducible refine peelBX ?_) | (with_reducible refine peelBN ?_) | (with_reducible refine peelBO rfl ?_))
      have hbad : goodB (chunk bs i) = false := by
        cases hg : goodB (chunk bs i)
        · rfl
        · rw [recT_good hg] at g24; simp at g24
      rw [recN_bad hi hbad]
      exact ret1 (.inr rfl) Try.results56 rfl fun w' hh => ⟨(ao, c), hic, rfl, hh.sub (by repeat (first | exact TakeL.nil | (apply TakeL.cons; · repeat (first | exact Take1.head | apply Take1.tail))))⟩
    · refine WC.skip ?_
      refine WC.region ?_
      have hgood : goodB (chunk bs i) = true := by
        cases hg : goodB (chunk bs i)
        · rw [recT_bad hg] at g24; simp at g24
        · rfl
      have hrT : recT (chunk bs i) = (recAt bs i, true) := recT_good hgood
      have hlt := recN_more hi hfit hgood
      rw [hrT] at hrl ⊢
      dsimp only at hrl ⊢
      have hr22 := Rc.cells_len hrl
      refine WL.y (Yl.move rfl) rfl ?_ -- t26
      refine WL.y (Yl.loadN ag46 rfl (by repeat (first | exact Take1.head | apply Take1.tail)) (leB (by rw [Rc.cells_len hrl]; omega)) (Rc.call hrl)) rfl ?_ -- t27
      refine WL.to (To.buildSlice (vs := [.agg (recAt bs i).cells.toArray]) un39 zs46 rfl rfl (by simp [Value.cells, hr22]) (by decide) (by decide)) rfl ?_
      intro b28
      refine WL.to (To.append sl39 rfl rfl (by repeat (first | exact Take1.head | apply Take1.tail)) (Reads.of (RdOf.blk (size := 22) (cs := flat [.agg (recAt bs i).cells.toArray]) (cs' := (recAt bs i).cells) (Nat.le_refl _) (by unfold maxLen; omega) (by simp [flat, Value.cells, hr22]) (by simp [flat, Value.cells]; rw [List.take_of_length_le (by rw [hr22]; omega)])) (by repeat (first | exact Take1.head | apply Take1.tail))) (Rc.ones _) rfl (recCells_succ bs i).symm (by unfold maxLen; omega) (by omega)) rfl ?_ -- t29
      rintro ⟨⟨ao29, c29⟩, hc29⟩
      dsimp only at hc29 ⊢
      refine WL.y (Yl.assign rfl) rfl ?_ -- t3
      refine WL.nil ?_
      refine WC.region ?_
      refine WL.y (Yl.move rfl) rfl ?_ -- t12
      refine WL.y (Yl.add rfl rfl (IntWalk.i64_in _ (by omega))) rfl ?_ -- t13
      refine WL.y (Yl.assign rfl) rfl ?_ -- t4
      refine WL.nil ?_
      exact ⟨rfl, (i + 1, ao29, c29), ⟨hlt, hc29⟩, by dsimp only; omega, (by repeat (first | exact Sub.nil | refine Sub.cons rfl ?_)), _, (by repeat (first | exact TakeL.nil | (apply TakeL.cons; · repeat (first | exact Take1.head | apply Take1.tail))))⟩
  · refine WC.exit ?_
    refine WC.seq ?_
    refine WC.region ?_
    refine WL.y (Yl.move rfl) rfl ?_ -- t30
    refine WL.y (Yl.assign rfl) rfl ?_ -- t2
    refine WL.nil ?_
    refine WC.ret ?_
    repeat (first | (with_reducible refine peelT ?_) | (with_reducible refine peelB ?_) | (with_reducible refine peelTX ?_) | (with_reducible refine peelBX ?_) | (with_reducible refine peelBN ?_) | (with_reducible refine peelBO rfl ?_))
    rw [recN_end hi (by omega)]
    exact ret1 (.inr rfl) Try.results56 rfl fun w' hh => ⟨(ao, c), hic, rfl, hh.sub (by repeat (first | exact TakeL.nil | (apply TakeL.cons; · repeat (first | exact Take1.head | apply Take1.tail))))⟩

def oneC : Rc := ⟨1 :: List.replicate 15 0, 3, true, 1, 5, 6, 7⟩
theorem oneC_ok : oneC.ok := by
  refine ⟨rfl, ?_, ?_, ?_, ?_, ?_, ?_⟩
  · intro x hx
    simp [oneC] at hx
    omega
  · exact ⟨by show (0 : Int) ≤ 3; omega, by show (3 : Int) < _; omega⟩
  · exact ⟨by show (0 : Int) ≤ 1; omega, by show (1 : Int) < _; omega⟩
  · exact ⟨by show (0 : Int) ≤ 5; omega, by show (5 : Int) < _; omega⟩
  · exact ⟨by show (0 : Int) ≤ 6; omega, by show (6 : Int) < _; omega⟩
  · exact ⟨by show (0 : Int) ≤ 7; omega, by show (7 : Int) < _; omega⟩
end Go.Proofs.Ytpjgmiemamcdhaa
