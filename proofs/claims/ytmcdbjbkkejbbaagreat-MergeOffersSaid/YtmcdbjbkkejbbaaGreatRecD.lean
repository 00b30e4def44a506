/- Records in a row: the iterator over them, the reference's list: the walks. -/
import Derived.Test.YtmcdbjbkkejbbaaGreatRecC
import Derived.Test.YtmcdbjbkkejbbaaGreatRecR
import Derived.Test.YtmcdbjbkkejbbaaGreatLibY
namespace Go.Proofs.YtmcdbjbkkejbbaaGreat
open Go Go.RowKit

theorem rall1_iter (bs : List Int) (v : Value) (hB : Bytes bs) (hsz : bs.length ≤ 1000000) (b : Nat) (w : World)
    (hA : OK w (fpL [roR (blkR b 23 [v]), rdR v 1 bs.length (ints .u8 bs)]) [roR (blkR b 23 [v]), rdR v 1 bs.length (ints .u8 bs)] w) :
    Iter Tryz.prog 65 ([.pointer (some ⟨b, 0, none⟩)] : List Value).toArray (fpL [roR (blkR b 23 [v]), rdR v 1 bs.length (ints .u8 bs)]).rd (recYs bs) w := by
  obtain ⟨al, cl, rfl, hcl, hml⟩ := (hA.get (.tail .head)).form
  have hwr : ∀ r ∈ [roR (blkR b 23 [.slice al bs.length cl]), rdR (.slice al bs.length cl) 1 bs.length (ints .u8 bs)], ∀ k, ¬ r.wr k := by
    intro r hr k hk
    simp at hr
    rcases hr with rfl | rfl <;> exact hk
  have hln := recYs_len bs
  refine iter_of Tryz.func65 rfl Tryz.ntmps65 rfl hA hwr ?_
  intro l W g gx T0 hy
  refine WC.seq ?_
  refine WC.region ?_
  refine WL.y (Yl.assign rfl) rfl ?_ -- t3
  refine WL.nil ?_
  refine WC.block ?_
  refine WC.loop (α := Nat × (Nat → Prop)) (fun x => [(3, .int .i64 ((43 * x.1 : Nat) : Int)), (0, .func (.yield l) #[] #[]), (1, .pointer (some ⟨b, 0, none⟩))]) (fun x => [gstR g x.1 x.2, roR (blkR b 23 [.slice al bs.length cl]), rdR (.slice al bs.length cl) 1 bs.length (ints .u8 bs)]) (fun x => x.1 ≤ recN bs) (fun x => recN bs - x.1) (0, T0) (Nat.zero_le _) ⟨(by repeat (first | exact Sub.nil | refine Sub.cons rfl ?_)), _, (by repeat (first | exact TakeL.nil | (apply TakeL.cons; · repeat (first | exact Take1.head | apply Take1.tail))))⟩ ?_
  rintro ⟨i, T⟩ hi
  dsimp only at hi ⊢
  have hbi := recN_le bs
  refine WC.seq ?_
  refine WC.seq ?_
  refine WC.region ?_
  refine WL.y (Yl.move rfl) rfl ?_ -- t6
  refine WL.y (Yl.add rfl rfl (IntWalk.i64_in _ (by omega))) rfl ?_ -- t7
  refine WL.y (Yl.loadRo on23 rfl (by repeat (first | exact Take1.head | apply Take1.tail)) (by rfl)) rfl ?_
  refine WL.y (Yl.len un23 rfl) rfl ?_ -- t9
  refine WL.y (Yl.leq rfl rfl) rfl ?_ -- t10
  refine WL.nil ?_
  refine WC.condD rfl (fun g10 => ?_) (fun g10 => ?_)
  · refine WC.skip ?_
    refine WC.seq ?_
    refine WC.block ?_
    refine WC.seq ?_
    refine WC.region ?_
    have hfit : 43 * i + 43 ≤ bs.length := by omega
    have hcl43 := chunk_len hfit
    have hrl := (recT_ok (chunk_bytes hB i)).len
    refine WL.y (Yl.loadRo on23 rfl (by repeat (first | exact Take1.head | apply Take1.tail)) (by rfl)) rfl ?_
    refine WL.y (Yl.move rfl) rfl ?_ -- t15
    refine WL.y (Yl.move rfl) rfl ?_ -- t16
    refine WL.y (Yl.add rfl rfl (IntWalk.i64_in _ (by omega))) rfl ?_ -- t17
    refine WL.say (t := 17) (v' := .int .i64 ((43 * i + 43 : Nat) : Int)) rfl (by rfl) ?_
    refine WL.y (Yl.slice un23 sz5 rfl ⟨_, rfl⟩ ⟨_, rfl⟩ (by omega) (by omega)) rfl ?_ -- t18
    refine WL.callC (xs := [.tmp 18]) (cap := []) rfl rfl en66 (by repeat (first | exact TakeL.nil | (apply TakeL.cons; · repeat (first | exact Take1.head | apply Take1.tail)))) (fun w hw => rtakeP_any (chunk bs i) _ (chunk_bytes hB i) (by omega) w ((hw.src (A := []) RdOf.rd' (by repeat (first | exact Take1.head | apply Take1.tail))).chunk hfit) hw.left.here) rfl ?_ -- t19 hailer/rec.Take
    rintro ⟨⟩ -
    refine WL.y (Yl.move rfl) rfl ?_ -- t13
    refine WL.y (Yl.extract rfl rfl) rfl ?_ -- t20
    refine WL.y (Yl.extract rfl rfl) rfl ?_ -- t21
    refine WL.to (To.alloc zr33 rfl) rfl ?_ -- t4
    intro b4
    refine WL.sto (Sto.agg sz33 rfl rfl (by repeat (first | exact Take1.head | apply Take1.tail)) (Rc.ones _) (Rc.cells_len hrl) (by rfl) (Rc.all (r := Rc.zero) rfl (recT (chunk bs i)).1.cells (Rc.cells_len hrl))) (fun _ h => nomatch h) ?_ -- st 1
    refine WL.y (Yl.assign rfl) rfl ?_ -- t5
    refine WL.nil ?_
    refine WC.seq ?_
    refine WC.region ?_
    refine WL.y (Yl.move rfl) rfl ?_ -- t22
    refine WL.y (Yl.neq rfl rfl) rfl ?_ -- t23
    refine WL.y (Yl.move rfl) rfl ?_ -- t24
    refine WL.both (t := 24) rfl (fun g24 => ?_) (fun g24 => ?_)
    · refine WL.off rfl rfl rfl rfl ?_ -- t25
      refine WL.off rfl rfl rfl rfl ?_ -- t26
      refine WL.off rfl rfl rfl rfl ?_ -- t27
      refine WL.off rfl rfl rfl rfl ?_ -- t28
      refine WL.off rfl rfl rfl rfl ?_ -- t29
      refine WL.y (Yl.pickT rfl rfl) rfl ?_ -- t30
      refine WL.nil ?_
      refine WC.condT rfl (by first | rfl | (simp; done) | (simp; omega)) ?_
      refine WC.ret ?_
      repeat (first | (with_reducible refine peelT ?_) | (with_reducible refine peelB ?_) | (with_reducible refine peelTX ?_) | (with_reducible refine peelBX ?_) | (with_reducible refine peelBN ?_) | (with_reducible refine peelBO rfl ?_))
      have hbad : goodB (chunk bs i) = false := by
        cases hg : goodB (chunk bs i)
        · rfl
        · rw [recT_good hg] at g24; simp [errT] at g24
      have hx : i = (recYs bs).length := by rw [hln]; exact (recN_bad hi hbad).symm
      rw [← hx]
      exact itEnd (.inr rfl) Tryz.results65 (by repeat (first | exact Take1.head | apply Take1.tail))
    · refine WL.on rfl rfl ?_
      have hgood : goodB (chunk bs i) = true := by
        cases hg : goodB (chunk bs i)
        · rw [recT_bad hg] at g24; simp [errT] at g24
        · rfl
      have hrT : recT (chunk bs i) = (recAt bs i, true) := recT_good hgood
      have hlt := recN_more hi hfit hgood
      rw [hrT] at hrl ⊢
      dsimp only at hrl ⊢
      refine WL.y (Yl.move rfl) rfl ?_ -- t25
      refine WL.on rfl rfl ?_
      refine WL.y (Yl.move rfl) rfl ?_ -- t26
      refine WL.on rfl rfl ?_
      refine WL.y (Yl.loadN ag33 rfl (by repeat (first | exact Take1.head | apply Take1.tail)) (leB (by rw [Rc.cells_len hrl]; omega)) (Rc.call hrl)) rfl ?_ -- t27
      refine WL.on rfl rfl ?_
      refine WL.yield (xs := [.tmp 26, .tmp 27]) (i := i) hy rfl rfl (recYs_get hlt) (by repeat (first | exact Take1.head | apply Take1.tail)) rfl ?_
      intro b28 T'
      refine WL.on rfl rfl ?_
      refine WL.y (Yl.not rfl) rfl ?_ -- t29
      refine WL.y (Yl.pickF rfl rfl) rfl ?_ -- t30
      refine WL.nil ?_
      refine WC.cond rfl (fun g30 => ?_) (fun g30 => ?_)
      · refine WC.ret ?_
        repeat (first | (with_reducible refine peelT ?_) | (with_reducible refine peelB ?_) | (with_reducible refine peelTX ?_) | (with_reducible refine peelBX ?_) | (with_reducible refine peelBN ?_) | (with_reducible refine peelBO rfl ?_))
        have hb : b28 = false := by simpa using g30
        subst hb
        simp only [Bool.false_eq_true, if_false]
        exact itStop (i := i) (.inr rfl) Tryz.results65 (by repeat (first | exact Take1.head | apply Take1.tail)) (by rw [hln]; exact hlt)
      · refine WC.skip ?_
        refine WC.region ?_
        refine WL.y (Yl.move rfl) rfl ?_ -- t11
        refine WL.y (Yl.add rfl rfl (IntWalk.i64_in _ (by omega))) rfl ?_ -- t12
        refine WL.y (Yl.assign rfl) rfl ?_ -- t3
        refine WL.nil ?_
        have hb : b28 = true := by simpa using g30
        subst hb
        simp only [if_true]
        exact ⟨rfl, (i + 1, T'), hlt, by dsimp only; omega, (by repeat (first | exact Sub.nil | refine Sub.cons rfl ?_)), _, (by repeat (first | exact TakeL.nil | (apply TakeL.cons; · repeat (first | exact Take1.head | apply Take1.tail))))⟩
  · refine WC.exit ?_
    repeat (first | (with_reducible refine peelT ?_) | (with_reducible refine peelB ?_) | (with_reducible refine peelTX ?_) | (with_reducible refine peelBX ?_) | (with_reducible refine peelBN ?_) | (with_reducible refine peelBO rfl ?_))
    have hx : i = (recYs bs).length := by rw [hln]; exact (recN_end hi (by omega)).symm
    rw [← hx]
    exact itEnd (.inl rfl) Tryz.results65 (by repeat (first | exact Take1.head | apply Take1.tail))

theorem recAll_any (bs : List Int) (v : Value) (hB : Bytes bs) (hsz : bs.length ≤ 1000000) (w : World) (hw : OK w (fpL [rdR v 1 bs.length (ints .u8 bs)]) [rdR v 1 bs.length (ints .u8 bs)] w) :
    Fn Tryz.prog 34 [v] [rdR v 1 bs.length (ints .u8 bs)] w (fun _ : Nat × (Nat → Prop) => True) (fun y => .func (.func 65) #[] #[.pointer (some ⟨y.1, 0, none⟩)]) (fun y => [itR Tryz.prog 65 [.pointer (some ⟨y.1, 0, none⟩)] y.2 (recYs bs)]) := by
  obtain ⟨al, cl, rfl, hcl, hml⟩ := (hw.get .head).form
  refine enterF Tryz.func34 rfl Tryz.ntmps34 rfl hw ?_
  refine WC.seq ?_
  refine WC.region ?_
  refine WL.to (To.box (cs := [.slice al bs.length cl]) rfl rfl) rfl ?_ -- t1
  intro b1
  refine WL.y (Yl.assign rfl) rfl ?_ -- t2
  refine WL.nil ?_
  refine WC.seq ?_
  refine WC.region ?_
  refine WL.y (Yl.makeFunc (xs := []) (ys := [.tmp 1]) rfl rfl) rfl ?_ -- t3
  refine WL.y (Yl.assign rfl) rfl ?_ -- t2
  refine WL.nil ?_
  refine WC.ret ?_
  repeat (first | (with_reducible refine peelT ?_) | (with_reducible refine peelB ?_) | (with_reducible refine peelTX ?_) | (with_reducible refine peelBX ?_) | (with_reducible refine peelBN ?_) | (with_reducible refine peelBO rfl ?_))
  refine ret1 (.inr rfl) Tryz.results34 rfl fun w' hh => ⟨(b1, (fpL [roR (blkR b1 23 [.slice al bs.length cl]), rdR (.slice al bs.length cl) 1 bs.length (ints .u8 bs)]).rd), trivial, rfl, ?_⟩
  have hA : OK w _ ([blkR b1 23 [.slice al bs.length cl], rdR (.slice al bs.length cl) 1 bs.length (ints .u8 bs)] ++ []) w' := hh.sub (by repeat (first | exact TakeL.nil | (apply TakeL.cons; · repeat (first | exact Take1.head | apply Take1.tail))))
  exact hA.toIter (rall1_iter bs _ hB hsz b1 w' hA.freeze.here) (fun k hk => rd_freeze (A := [blkR b1 23 [.slice al bs.length cl], rdR (.slice al bs.length cl) 1 bs.length (ints .u8 bs)]) hk)

theorem rall_any (bs : List Int) (v : Value) (hB : Bytes bs) (hsz : bs.length ≤ 1000000) (w : World) (hx : RdS w (fpL []) v 1 bs.length (ints .u8 bs)) (hw : OK w (fpL []) [] w) :
    Fn Tryz.prog 14 [v] [] w (fun y : Option Addr × Nat => recN bs ≤ y.2) (fun y => .slice y.1 (recN bs) y.2) (fun y => [ownR (.slice y.1 (recN bs) y.2) 33 22 (recN bs) (recCells bs (recN bs))]) := by
  obtain ⟨al, cl, rfl, hcl, hml⟩ := hx.rd.form
  refine enterF Tryz.func14 rfl Tryz.ntmps14 rfl hw ?_
  refine WC.seq ?_
  refine WC.region ?_
  refine WL.y (Yl.assign rfl) rfl ?_ -- t2
  refine WL.nil ?_
  refine WC.seq ?_
  refine WC.region ?_
  refine WL.y (Yl.assign rfl) rfl ?_ -- t3
  refine WL.nil ?_
  refine WC.seq ?_
  refine WC.seq ?_
  refine WC.region ?_
  refine WL.y (Yl.assign rfl) rfl ?_ -- t4
  refine WL.nil ?_
  refine WC.block ?_
  refine WC.view (fun w h => h.addNil 33 22) ?_
  refine WC.loop (α := Nat × (Option Addr × Nat)) (fun p => [(0, .slice al bs.length cl), (3, .slice p.2.1 p.1 p.2.2), (4, .int .i64 ((43 * p.1 : Nat) : Int))]) (fun p => [ownR (.slice p.2.1 p.1 p.2.2) 33 22 p.1 (recCells bs p.1)]) (fun p => p.1 ≤ recN bs ∧ p.1 ≤ p.2.2) (fun p => recN bs - p.1) (0, none, 0) ⟨Nat.zero_le _, Nat.le_refl _⟩ ⟨(by repeat (first | exact Sub.nil | refine Sub.cons rfl ?_)), _, (by repeat (first | exact TakeL.nil | (apply TakeL.cons; · repeat (first | exact Take1.head | apply Take1.tail))))⟩ ?_
  rintro ⟨i, ao, c⟩ ⟨hi, hic⟩
  dsimp only at hi hic ⊢
  have hbi := recN_le bs
  refine WC.seq ?_
  refine WC.seq ?_
  refine WC.region ?_
  refine WL.y (Yl.move rfl) rfl ?_ -- t7
  refine WL.y (Yl.add rfl rfl (IntWalk.i64_in _ (by omega))) rfl ?_ -- t8
  refine WL.y (Yl.move rfl) rfl ?_ -- t9
  refine WL.y (Yl.len un23 rfl) rfl ?_ -- t10
  refine WL.y (Yl.leq rfl rfl) rfl ?_ -- t11
  refine WL.nil ?_
  refine WC.condD rfl (fun g11 => ?_) (fun g11 => ?_)
  · refine WC.skip ?_
    refine WC.seq ?_
    refine WC.block ?_
    refine WC.seq ?_
    refine WC.region ?_
    have hfit : 43 * i + 43 ≤ bs.length := by omega
    have hcl43 := chunk_len hfit
    have hrl := (recT_ok (chunk_bytes hB i)).len
    refine WL.y (Yl.move rfl) rfl ?_ -- t15
    refine WL.y (Yl.move rfl) rfl ?_ -- t16
    refine WL.y (Yl.move rfl) rfl ?_ -- t17
    refine WL.y (Yl.add rfl rfl (IntWalk.i64_in _ (by omega))) rfl ?_ -- t18
    refine WL.say (t := 18) (v' := .int .i64 ((43 * i + 43 : Nat) : Int)) rfl (by rfl) ?_
    refine WL.y (Yl.slice un23 sz5 rfl ⟨_, rfl⟩ ⟨_, rfl⟩ (by omega) (by omega)) rfl ?_ -- t19
    refine WL.callC (xs := [.tmp 19]) (cap := []) rfl rfl en33 (by repeat (first | exact TakeL.nil | (apply TakeL.cons; · repeat (first | exact Take1.head | apply Take1.tail)))) (fun w hw => rtake_any (chunk bs i) _ (chunk_bytes hB i) (by omega) w ((hw.srcS (A := []) hx).chunk hfit) hw.left.here) rfl ?_ -- t20 hailer/hailerref11.Take
    rintro ⟨⟩ -
    refine WL.y (Yl.move rfl) rfl ?_ -- t14
    refine WL.y (Yl.extract rfl rfl) rfl ?_ -- t21
    refine WL.y (Yl.extract rfl rfl) rfl ?_ -- t22
    refine WL.to (To.alloc zr33 rfl) rfl ?_ -- t5
    intro b5
    refine WL.sto (Sto.agg sz33 rfl rfl (by repeat (first | exact Take1.head | apply Take1.tail)) (Rc.ones _) (Rc.cells_len hrl) (by rfl) (Rc.all (r := Rc.zero) rfl (recT (chunk bs i)).1.cells (Rc.cells_len hrl))) (fun _ h => nomatch h) ?_ -- st 1
    refine WL.y (Yl.assign rfl) rfl ?_ -- t6
    refine WL.nil ?_
    refine WC.seq ?_
    refine WC.seq ?_
    refine WC.region ?_
    refine WL.y (Yl.move rfl) rfl ?_ -- t23
    refine WL.y (Yl.not rfl) rfl ?_ -- t24
    refine WL.nil ?_
    refine WC.cond rfl (fun g24 => ?_) (fun g24 => ?_)
    · refine WC.seq ?_
      refine WC.region ?_
      refine WL.y (Yl.move rfl) rfl ?_ -- t25
      refine WL.y (Yl.assign rfl) rfl ?_ -- t2
      refine WL.nil ?_
      refine WC.ret ?_
      repeat (first | (with_reducible refine peelT ?_) | (with_reducible refine peelB ?_) | (with_reducible refine peelTX ?_) | (with_reducible refine peelBX ?_) | (with_reducible refine peelBN ?_) | (with_reducible refine peelBO rfl ?_))
      have hbad : goodB (chunk bs i) = false := by
        cases hg : goodB (chunk bs i)
        · rfl
        · rw [recT_good hg] at g24; simp at g24
      rw [recN_bad hi hbad]
      exact ret1 (.inr rfl) Tryz.results14 rfl fun w' hh => ⟨(ao, c), hic, rfl, hh.sub (by repeat (first | exact TakeL.nil | (apply TakeL.cons; · repeat (first | exact Take1.head | apply Take1.tail))))⟩
    · refine WC.skip ?_
      refine WC.region ?_
      have hgood : goodB (chunk bs i) = true := by
        cases hg : goodB (chunk bs i)
        · rw [recT_bad hg] at g24; simp at g24
        · rfl
      have hrT : recT (chunk bs i) = (recAt bs i, true) := recT_good hgood
      have hlt := recN_more hi hfit hgood
      rw [hrT] at hrl ⊢
      dsimp only at hrl ⊢
      have hr22 := Rc.cells_len hrl
      refine WL.y (Yl.move rfl) rfl ?_ -- t26
      refine WL.y (Yl.loadN ag33 rfl (by repeat (first | exact Take1.head | apply Take1.tail)) (leB (by rw [Rc.cells_len hrl]; omega)) (Rc.call hrl)) rfl ?_ -- t27
      refine WL.to (To.buildSlice (vs := [.agg (recAt bs i).cells.toArray]) un22 zs33 rfl rfl (by simp [Value.cells, hr22]) (by decide) (by decide)) rfl ?_
      intro b28
      refine WL.to (To.append sl22 rfl rfl (by repeat (first | exact Take1.head | apply Take1.tail)) (Reads.of (RdOf.blk (size := 22) (cs := flat [.agg (recAt bs i).cells.toArray]) (cs' := (recAt bs i).cells) (Nat.le_refl _) (by unfold maxLen; omega) (by simp [flat, Value.cells, hr22]) (by simp [flat, Value.cells]; rw [List.take_of_length_le (by rw [hr22]; omega)])) (by repeat (first | exact Take1.head | apply Take1.tail))) (Rc.ones _) rfl (recCells_succ bs i).symm (by unfold maxLen; omega) (by omega)) rfl ?_ -- t29
      rintro ⟨⟨ao29, c29⟩, hc29⟩
      dsimp only at hc29 ⊢
      refine WL.y (Yl.assign rfl) rfl ?_ -- t3
      refine WL.nil ?_
      refine WC.region ?_
      refine WL.y (Yl.move rfl) rfl ?_ -- t12
      refine WL.y (Yl.add rfl rfl (IntWalk.i64_in _ (by omega))) rfl ?_ -- t13
      refine WL.y (Yl.assign rfl) rfl ?_ -- t4
      refine WL.nil ?_
      exact ⟨rfl, (i + 1, ao29, c29), ⟨hlt, hc29⟩, by dsimp only; omega, (by repeat (first | exact Sub.nil | refine Sub.cons rfl ?_)), _, (by repeat (first | exact TakeL.nil | (apply TakeL.cons; · repeat (first | exact Take1.head | apply Take1.tail))))⟩
  · refine WC.exit ?_
    refine WC.seq ?_
    refine WC.region ?_
    refine WL.y (Yl.move rfl) rfl ?_ -- t30
    refine WL.y (Yl.assign rfl) rfl ?_ -- t2
    refine WL.nil ?_
    refine WC.ret ?_
    repeat (first | (with_reducible refine peelT ?_) | (with_reducible refine peelB ?_) | (with_reducible refine peelTX ?_) | (with_reducible refine peelBX ?_) | (with_reducible refine peelBN ?_) | (with_reducible refine peelBO rfl ?_))
    rw [recN_end hi (by omega)]
    exact ret1 (.inr rfl) Tryz.results14 rfl fun w' hh => ⟨(ao, c), hic, rfl, hh.sub (by repeat (first | exact TakeL.nil | (apply TakeL.cons; · repeat (first | exact Take1.head | apply Take1.tail))))⟩

def oneC : Rc := ⟨1 :: List.replicate 15 0, 3, true, 1, 5, 6, 7⟩
theorem oneC_ok : oneC.ok := by
  refine ⟨rfl, ?_, ?_, ?_, ?_, ?_, ?_⟩
  · intro x hx
    simp [oneC] at hx
    omega
  · exact ⟨by show (0 : Int) ≤ 3; omega, by show (3 : Int) < _; omega⟩
  · exact ⟨by show (0 : Int) ≤ 1; omega, by show (1 : Int) < _; omega⟩
  · exact ⟨by show (0 : Int) ≤ 5; omega, by show (5 : Int) < _; omega⟩
  · exact ⟨by show (0 : Int) ≤ 6; omega, by show (6 : Int) < _; omega⟩
  · exact ⟨by show (0 : Int) ≤ 7; omega, by show (7 : Int) < _; omega⟩
end Go.Proofs.YtmcdbjbkkejbbaaGreat
