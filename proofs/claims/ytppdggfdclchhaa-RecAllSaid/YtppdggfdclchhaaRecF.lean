/- RecAll: the walk. -/
import Derived.Test.YtppdggfdclchhaaRecE
namespace Go.Proofs.Ytppdggfdclchhaa
open Go Go.RowKit

theorem recAllLaw_any (bs : List Int) (v : Value) (left : Int) (hleft : U8 left) (hB : Bytes bs) (w : World) (hw : OK w (fpL [rdR v 1 bs.length (ints .u8 bs)]) [rdR v 1 bs.length (ints .u8 bs)] w) :
    Fn Try.prog 5 [v, .int .u8 left] [rdR v 1 bs.length (ints .u8 bs)] w (fun _ : Unit => True) (fun _ => .bool true) (fun _ => []) := by
  obtain ⟨al, cl, rfl, hcl, hml⟩ := (hw.get .head).form
  have hl1 := hleft.1
  have hl2 := hleft.2
  refine enterM Try.func5 rfl Try.ntmps5 rfl hw ?_
  refine WC.seq ?_
  refine WC.region ?_
  refine WL.to (To.box (cs := [.int .u8 left]) rfl rfl) rfl ?_ -- t3
  intro b3
  refine WL.to (To.alloc zr4 rfl) rfl ?_ -- t4
  intro b4
  refine WL.nil ?_
  refine WC.seq ?_
  refine WC.seq ?_
  refine WC.region ?_
  refine WL.callC (xs := []) (cap := []) rfl rfl en9 (by repeat (first | exact TakeL.nil | (apply TakeL.cons; · repeat (first | exact Take1.head | apply Take1.tail)))) (fun w hw => works_any w hw.left.here) rfl ?_ -- t9 hailer/hailerlaw11.works
  rintro ⟨⟩ -
  refine WL.y (Yl.not rfl) rfl ?_ -- t10
  refine WL.know (t := 10) (b' := false) rfl (by first | rfl | (simp; done) | (simp; omega)) ?_
  refine WL.nil ?_
  refine WC.condF rfl (by first | rfl | (simp; done) | (simp; omega)) ?_
  refine WC.skip ?_
  refine WC.seq ?_
  refine WC.seq ?_
  refine WC.region ?_
  refine WL.y (Yl.move rfl) rfl ?_ -- t11
  refine WL.y (Yl.len un28 rfl) rfl ?_ -- t12
  refine WL.y (Yl.gtr rfl rfl) rfl ?_ -- t13
  refine WL.nil ?_
  refine WC.condD rfl (fun g13 => ?_) (fun g13 => ?_)
  · refine WC.seq ?_
    refine WC.region ?_
    refine WL.sto (Sto.one sz4 rfl rfl (by repeat (first | exact Take1.head | apply Take1.tail)) rfl (by rfl) (by rfl)) (fun _ h => nomatch h) ?_ -- st 2
    refine WL.nil ?_
    refine WC.ret ?_
    repeat (first | (with_reducible refine peelT ?_) | (with_reducible refine peelB ?_) | (with_reducible refine peelTX ?_) | (with_reducible refine peelBX ?_) | (with_reducible refine peelBN ?_) | (with_reducible refine peelBO rfl ?_))
    refine retM.of .nil ?_
    exact retV1 (.inr rfl) Try.results5 on4 rfl (by repeat (first | exact Take1.head | apply Take1.tail)) fun w' h => ⟨(), trivial, rfl, h.sub (by repeat (first | exact TakeL.nil | (apply TakeL.cons; · repeat (first | exact Take1.head | apply Take1.tail))))⟩
  · refine WC.skip ?_
    refine WC.seq ?_
    refine WC.region ?_
    refine WL.y (Yl.move rfl) rfl ?_ -- t14
    refine WL.callC (xs := [.tmp 14]) (cap := []) rfl rfl en14 (by repeat (first | exact TakeL.nil | (apply TakeL.cons; · repeat (first | exact Take1.head | apply Take1.tail)))) (fun w hw => rall_any bs _ hB (by omega) w (hw.src (A := []) RdOf.rd' (by repeat (first | exact Take1.head | apply Take1.tail))) hw.left.here) rfl ?_ -- t15 hailer/hailerref11.All
    rintro ⟨a15, c15⟩ hc15
    dsimp only at hc15 ⊢
    refine WL.to (To.alloc zr27 rfl) rfl ?_ -- t5
    intro b5
    refine WL.sto (Sto.one sz27 rfl rfl (by repeat (first | exact Take1.head | apply Take1.tail)) rfl (by rfl) (by rfl)) (fun _ h => nomatch h) ?_ -- st 3
    refine WL.nil ?_
    refine WC.seq ?_
    refine WC.region ?_
    refine WL.to (To.alloc zr3 rfl) rfl ?_ -- t6
    intro b6
    refine WL.sto (Sto.one sz3 rfl rfl (by repeat (first | exact Take1.head | apply Take1.tail)) rfl (by rfl) (by rfl)) (fun _ h => nomatch h) ?_ -- st 4
    refine WL.nil ?_
    refine WC.seq ?_
    refine WC.seq ?_
    refine WC.region ?_
    refine WL.y (Yl.move rfl) rfl ?_ -- t16
    refine WL.callC (xs := [.tmp 16]) (cap := []) rfl rfl en15 (by repeat (first | exact TakeL.nil | (apply TakeL.cons; · repeat (first | exact Take1.head | apply Take1.tail)))) (fun w hw => recAll_any bs _ hB (by omega) w hw.left.here) rfl ?_ -- t17 hailer/rec.All
    rintro ⟨bb, own⟩ -
    refine WL.nil ?_
    refine WC.block ?_
    refine WC.range (α := Unit) (xs := recYs bs) (fun i _ => [blkR b6 3 [.int .i64 ((i : Nat) : Int)], blkR b5 27 [.slice a15 (recN bs) c15], ownR (.slice a15 (recN bs) c15) 26 22 (recN bs) (recCells bs (recN bs)), blkR b3 5 [.int .u8 left], blkR b4 4 [.bool false]]) (fun i _ => i = 0 ∨ (i : Int) < left) () rfl en33 recYs_size rfl (by repeat (first | exact Take1.head | apply Take1.tail)) (.inl rfl) (by repeat (first | exact TakeL.nil | (apply TakeL.cons; · repeat (first | exact Take1.head | apply Take1.tail)))) ?_ ?_
    · intro l i x _ hx hs W
      obtain ⟨hi, rfl⟩ := recYs_at hx
      have hok := recAt_ok hB hi
      have hbi := recN_le bs
      show WC _ _ _ ((19, .agg (recAt bs i).cells.toArray) :: (18, .int .i64 ((43 * i : Nat) : Int)) :: _) _ _
      refine WC.seq ?_
      refine WC.region ?_
      refine WL.y (Yl.assign rfl) rfl ?_ -- t7
      refine WL.nil ?_
      refine WC.region ?_
      refine WL.to (To.alloc (cs := Rc.zero.cells) zr26 rfl) rfl ?_ -- t8
      intro b8
      refine WL.sto (Sto.agg sz26 rfl rfl (by repeat (first | exact Take1.head | apply Take1.tail)) (Rc.ones _) (Rc.cells_len hok.len) (by rfl) (Rc.all (r := Rc.zero) rfl (recAt bs i).cells (Rc.cells_len hok.len))) (fun _ h => nomatch h) ?_ -- st 5
      refine WL.nil ?_
      repeat (first | (with_reducible refine peelT ?_) | (with_reducible refine peelB ?_) | (with_reducible refine peelTX ?_) | (with_reducible refine peelBX ?_) | (with_reducible refine peelBN ?_) | (with_reducible refine peelBO rfl ?_))
      refine fun W2 => ?_
      refine WC.block ?_
      refine WC.seq ?_
      refine WC.seq ?_
      refine WC.drawRead mixed (by kernel_rfl) ?_
      refine WH.y (Yl.load on3 rfl (by repeat (first | exact Take1.head | apply Take1.tail)) (by rfl)) rfl ?_ -- t20
      refine WH.y (Yl.load on27 rfl (by repeat (first | exact Take1.head | apply Take1.tail)) (by rfl)) rfl ?_ -- t21
      refine WH.y (Yl.len un27 rfl) rfl ?_ -- t22
      refine WH.y (Yl.geq rfl rfl) rfl ?_ -- t23
      refine WH.know (t := 23) (b' := false) rfl (decide_eq_false (by omega)) ?_
      refine WH.y (Yl.move rfl) rfl ?_ -- t24
      refine WH.on rfl rfl ?_
      refine WH.y (Yl.move rfl) rfl ?_ -- t25
      refine WH.on rfl rfl ?_
      refine WH.y (Yl.load on3 rfl (by repeat (first | exact Take1.head | apply Take1.tail)) (by rfl)) rfl ?_ -- t26
      refine WH.on rfl rfl ?_
      refine WH.y (Yl.mul rfl rfl (IntWalk.i64_in _ (by omega))) rfl ?_ -- t27
      refine WH.on rfl rfl ?_
      refine WH.y (Yl.neq rfl rfl) rfl ?_ -- t28
      refine WH.know (t := 28) (b' := false) rfl (decide_eq_false (by omega)) ?_
      refine WH.y (Yl.pickF rfl rfl) rfl ?_ -- t29
      refine WH.y (Yl.move rfl) rfl ?_ -- t30
      refine WH.on rfl rfl ?_
      refine WH.y (Yl.loadN ag26 rfl (by repeat (first | exact Take1.head | apply Take1.tail)) (leB (by rw [Rc.cells_len hok.len]; omega)) (Rc.call hok.len)) rfl ?_ -- t31
      refine WH.on rfl rfl ?_
      refine WH.y (Yl.load on27 rfl (by repeat (first | exact Take1.head | apply Take1.tail)) (by rfl)) rfl ?_ -- t32
      refine WH.on rfl rfl ?_
      refine WH.y (Yl.load on3 rfl (by repeat (first | exact Take1.head | apply Take1.tail)) (by rfl)) rfl ?_ -- t33
      refine WH.on rfl rfl ?_
      refine WH.y (Yl.index un27 sz26 rfl rfl (Reads.of RdOf.own (by repeat (first | exact Take1.head | apply Take1.tail))) rfl (by omega)) rfl ?_ -- t34
      refine WH.on rfl rfl ?_
      refine WH.y (Yl.loadEN ag26 (by decide) rfl (Reads.of RdOf.own (by repeat (first | exact Take1.head | apply Take1.tail))) (by omega) (recCells_at (Nat.le_refl _) hi)) rfl ?_ -- t35
      refine WH.on rfl rfl ?_
      refine WH.y (Yl.neA flRec rfl rfl hok.fits hok.fits) rfl ?_
      refine WH.know (t := 36) (b' := false) rfl (by simp [eqV_self]) ?_
      refine WH.y (Yl.pickF rfl rfl) rfl ?_ -- t37
      refine WH.nil ?_
      refine WC.condF rfl (by first | rfl | (simp; done) | (simp; omega)) ?_
      refine WC.skip ?_
      refine WC.seq ?_
      refine WC.region ?_
      refine WL.y (Yl.load on3 rfl (by repeat (first | exact Take1.head | apply Take1.tail)) (by rfl)) rfl ?_ -- t38
      refine WL.y (Yl.add rfl rfl (IntWalk.i64_in _ (by omega))) rfl ?_ -- t39
      refine WL.sto (Sto.one sz3 rfl rfl (by repeat (first | exact Take1.head | apply Take1.tail)) rfl (by rfl) (by rfl)) (fun _ h => nomatch h) ?_ -- st 7
      refine WL.nil ?_
      refine WC.seq ?_
      refine WC.region ?_
      refine WL.y (Yl.load on3 rfl (by repeat (first | exact Take1.head | apply Take1.tail)) (by rfl)) rfl ?_ -- t40
      refine WL.y (Yl.load on5 rfl (by repeat (first | exact Take1.head | apply Take1.tail)) (by rfl)) rfl ?_ -- t41
      refine WL.y (Yl.conv un5 un3 rfl (IntWalk.i64_in _ (by omega))) rfl ?_ -- t42
      refine WL.y (Yl.geq rfl rfl) rfl ?_ -- t43
      refine WL.nil ?_
      refine WC.condD rfl (fun g43 => ?_) (fun g43 => ?_)
      · refine WC.exit ?_
        repeat (first | (with_reducible refine peelT ?_) | (with_reducible refine peelB ?_) | (with_reducible refine peelTX ?_) | (with_reducible refine peelBX ?_) | (with_reducible refine peelBN ?_) | (with_reducible refine peelBO rfl ?_))
        refine ⟨[blkR b6 3 [.int .i64 ((i : Int) + 1)], blkR b5 27 [.slice a15 (recN bs) c15], blkR b3 5 [.int .u8 left], blkR b4 4 [.bool false]], _, (by repeat (first | exact TakeL.nil | (apply TakeL.cons; · repeat (first | exact Take1.head | apply Take1.tail)))), fun D => ?_⟩
        dsimp only [List.cons_append, List.nil_append]
        refine WC.seq ?_
        refine WC.region ?_
        refine WL.y (Yl.load on3 rfl (by repeat (first | exact Take1.head | apply Take1.tail)) (by rfl)) rfl ?_ -- t44
        refine WL.y (Yl.load on27 rfl (by repeat (first | exact Take1.head | apply Take1.tail)) (by rfl)) rfl ?_ -- t45
        refine WL.y (Yl.len un27 rfl) rfl ?_ -- t46
        refine WL.y (Yl.load on5 rfl (by repeat (first | exact Take1.head | apply Take1.tail)) (by rfl)) rfl ?_ -- t47
        refine WL.y (Yl.conv un5 un3 rfl (IntWalk.i64_in _ (by omega))) rfl ?_ -- t48
        refine WL.y (Yl.max2 rfl rfl) rfl ?_ -- t49
        refine WL.y (Yl.min2 rfl rfl) rfl ?_ -- t50
        refine WL.y (Yl.eql rfl rfl) rfl ?_ -- t51
        refine WL.know (t := 51) (b' := true) rfl (by apply decide_eq_true; (repeat' split) <;> omega) ?_
        refine WL.sto (Sto.one sz4 rfl rfl (by repeat (first | exact Take1.head | apply Take1.tail)) rfl (by rfl) (by rfl)) (fun _ h => nomatch h) ?_ -- st 8
        refine WL.nil ?_
        refine WC.ret ?_
        repeat (first | (with_reducible refine peelT ?_) | (with_reducible refine peelB ?_) | (with_reducible refine peelTX ?_) | (with_reducible refine peelBX ?_) | (with_reducible refine peelBN ?_) | (with_reducible refine peelBO rfl ?_))
        refine retM.of (.cons (by repeat (first | exact Take1.head | apply Take1.tail)) .nil) ?_
        exact retV1 (.inr rfl) Try.results5 on4 rfl (by repeat (first | exact Take1.head | apply Take1.tail)) fun w' h => ⟨(), trivial, rfl, h.sub (by repeat (first | exact TakeL.nil | (apply TakeL.cons; · repeat (first | exact Take1.head | apply Take1.tail))))⟩
      · refine WC.skip ?_
        repeat (first | (with_reducible refine peelT ?_) | (with_reducible refine peelB ?_) | (with_reducible refine peelTX ?_) | (with_reducible refine peelBX ?_) | (with_reducible refine peelBN ?_) | (with_reducible refine peelBO rfl ?_))
        exact ⟨[blkR b6 3 [.int .i64 ((i : Int) + 1)], blkR b5 27 [.slice a15 (recN bs) c15], ownR (.slice a15 (recN bs) c15) 26 22 (recN bs) (recCells bs (recN bs)), blkR b3 5 [.int .u8 left], blkR b4 4 [.bool false]], _, (by repeat (first | exact TakeL.nil | (apply TakeL.cons; · repeat (first | exact Take1.head | apply Take1.tail)))), (), .inr (by push_cast; omega), rfl⟩
    · rintro _ D hs
      rw [recYs_len] at hs ⊢
      dsimp only [List.cons_append, List.nil_append]
      refine WC.seq ?_
      refine WC.region ?_
      refine WL.y (Yl.load on3 rfl (by repeat (first | exact Take1.head | apply Take1.tail)) (by rfl)) rfl ?_ -- t44
      refine WL.y (Yl.load on27 rfl (by repeat (first | exact Take1.head | apply Take1.tail)) (by rfl)) rfl ?_ -- t45
      refine WL.y (Yl.len un27 rfl) rfl ?_ -- t46
      refine WL.y (Yl.load on5 rfl (by repeat (first | exact Take1.head | apply Take1.tail)) (by rfl)) rfl ?_ -- t47
      refine WL.y (Yl.conv un5 un3 rfl (IntWalk.i64_in _ (by omega))) rfl ?_ -- t48
      refine WL.y (Yl.max2 rfl rfl) rfl ?_ -- t49
      refine WL.y (Yl.min2 rfl rfl) rfl ?_ -- t50
      refine WL.y (Yl.eql rfl rfl) rfl ?_ -- t51
      refine WL.know (t := 51) (b' := true) rfl (by apply decide_eq_true; (repeat' split) <;> omega) ?_
      refine WL.sto (Sto.one sz4 rfl rfl (by repeat (first | exact Take1.head | apply Take1.tail)) rfl (by rfl) (by rfl)) (fun _ h => nomatch h) ?_ -- st 8
      refine WL.nil ?_
      refine WC.ret ?_
      repeat (first | (with_reducible refine peelT ?_) | (with_reducible refine peelB ?_) | (with_reducible refine peelTX ?_) | (with_reducible refine peelBX ?_) | (with_reducible refine peelBN ?_) | (with_reducible refine peelBO rfl ?_))
      refine retM.of (.cons (by repeat (first | exact Take1.head | apply Take1.tail)) .nil) ?_
      exact retV1 (.inr rfl) Try.results5 on4 rfl (by repeat (first | exact Take1.head | apply Take1.tail)) fun w' h => ⟨(), trivial, rfl, h.sub (by repeat (first | exact TakeL.nil | (apply TakeL.cons; · repeat (first | exact Take1.head | apply Take1.tail))))⟩
end Go.Proofs.Ytppdggfdclchhaa
