/- Records: whether they may be; the reference's numbers and ids: the walks. -/
import Derived.Test.YtmcdbjbkkejbbaaGreatRecP
namespace Go.Proofs.YtmcdbjbkkejbbaaGreat
open Go Go.RowKit

theorem flRec : Flat Tryz.prog 33 rcLeaf := Flat.mk' 5 (by decide) (by kernel_rfl) (by kernel_rfl)

theorem may_any (r : Rc) (hr : r.ok) (w : World) (hw : OK w (fpL []) [] w) : Fn Tryz.prog 48 [.agg r.cells.toArray] [] w (fun _ : Unit => True) (fun _ => .bool (mayB r)) (fun _ => []) := by
  have h := hr.len
  refine enterF Tryz.func48 rfl Tryz.ntmps48 rfl hw ?_
  refine WC.seq ?_
  refine WC.region ?_
  refine WL.to (To.box (cs := r.cells) rfl rfl) rfl ?_ -- t1
  intro b1
  refine WL.y (Yl.assign rfl) rfl ?_ -- t2
  refine WL.nil ?_
  refine WC.seq ?_
  refine WC.region ?_
  refine WL.y (Yl.field fo33_1 rfl) rfl ?_ -- t3
  refine WL.y (Yl.load on5 rfl (by repeat (first | exact Take1.head | apply Take1.tail)) (Rc.c16 h)) rfl ?_ -- t4
  refine WL.y (Yl.lss rfl rfl) rfl ?_ -- t5
  refine WL.y (Yl.move rfl) rfl ?_ -- t6
  refine WL.both (t := 6) rfl (fun g6 => ?_) (fun g6 => ?_)
  · refine WL.on rfl rfl ?_
    refine WL.y (Yl.field fo33_3 rfl) rfl ?_ -- t7
    refine WL.on rfl rfl ?_
    refine WL.y (Yl.load on5 rfl (by repeat (first | exact Take1.head | apply Take1.tail)) (Rc.c18 h)) rfl ?_ -- t8
    refine WL.on rfl rfl ?_
    refine WL.y (Yl.geq rfl rfl) rfl ?_ -- t9
    refine WL.y (Yl.pickT rfl rfl) rfl ?_ -- t10
    refine WL.y (Yl.move rfl) rfl ?_ -- t11
    refine WL.both (t := 11) rfl (fun g11 => ?_) (fun g11 => ?_)
    · refine WL.on rfl rfl ?_
      refine WL.y (Yl.field fo33_3 rfl) rfl ?_ -- t12
      refine WL.on rfl rfl ?_
      refine WL.y (Yl.load on5 rfl (by repeat (first | exact Take1.head | apply Take1.tail)) (Rc.c18 h)) rfl ?_ -- t13
      refine WL.on rfl rfl ?_
      refine WL.y (Yl.leq rfl rfl) rfl ?_ -- t14
      refine WL.y (Yl.pickT rfl rfl) rfl ?_ -- t15
      refine WL.y (Yl.move rfl) rfl ?_ -- t16
      refine WL.both (t := 16) rfl (fun g16 => ?_) (fun g16 => ?_)
      · refine WL.on rfl rfl ?_
        refine WL.y (Yl.field fo33_4 rfl) rfl ?_ -- t17
        refine WL.on rfl rfl ?_
        refine WL.y (Yl.load on31 rfl (by repeat (first | exact Take1.head | apply Take1.tail)) (Rc.c19 h)) rfl ?_ -- t18
        refine WL.on rfl rfl ?_
        refine WL.y (Yl.field fo33_6 rfl) rfl ?_ -- t19
        refine WL.on rfl rfl ?_
        refine WL.y (Yl.load on31 rfl (by repeat (first | exact Take1.head | apply Take1.tail)) (Rc.c21 h)) rfl ?_ -- t20
        refine WL.on rfl rfl ?_
        refine WL.y (Yl.leq rfl rfl) rfl ?_ -- t21
        refine WL.y (Yl.pickT rfl rfl) rfl ?_ -- t22
        refine WL.y (Yl.move rfl) rfl ?_ -- t23
        refine WL.both (t := 23) rfl (fun g23 => ?_) (fun g23 => ?_)
        · refine WL.on rfl rfl ?_
          refine WL.y (Yl.field fo33_5 rfl) rfl ?_ -- t24
          refine WL.on rfl rfl ?_
          refine WL.y (Yl.load on31 rfl (by repeat (first | exact Take1.head | apply Take1.tail)) (Rc.c20 h)) rfl ?_ -- t25
          refine WL.on rfl rfl ?_
          refine WL.y (Yl.eql rfl rfl) rfl ?_ -- t26
          refine WL.on rfl rfl ?_
          refine WL.y (Yl.move rfl) rfl ?_ -- t27
          refine WL.both (t := 27) rfl (fun g27 => ?_) (fun g27 => ?_)
          · refine WL.off rfl rfl rfl rfl ?_ -- t28
            refine WL.off rfl rfl rfl rfl ?_ -- t29
            refine WL.off rfl rfl rfl rfl ?_ -- t30
            refine WL.off rfl rfl rfl rfl ?_ -- t31
            refine WL.off rfl rfl rfl rfl ?_ -- t32
            refine WL.off rfl rfl rfl rfl ?_ -- t33
            refine WL.offU rfl rfl rfl ?_ -- t34
            refine WL.offU rfl rfl rfl ?_ -- t35
            refine WL.offU rfl rfl rfl ?_ -- t36
            refine WL.offU rfl rfl rfl ?_ -- t37
            refine WL.offU rfl rfl rfl ?_ -- t38
            refine WL.off rfl rfl rfl rfl ?_ -- t39
            refine WL.on rfl rfl ?_
            refine WL.y (Yl.pickT rfl rfl) rfl ?_ -- t40
            refine WL.y (Yl.pickT rfl rfl) rfl ?_ -- t41
            refine WL.y (Yl.assign rfl) rfl ?_ -- t2
            refine WL.nil ?_
            refine WC.ret ?_
            repeat (first | (with_reducible refine peelT ?_) | (with_reducible refine peelB ?_) | (with_reducible refine peelTX ?_) | (with_reducible refine peelBX ?_) | (with_reducible refine peelBN ?_) | (with_reducible refine peelBO rfl ?_))
            refine ret1 (.inr rfl) Tryz.results48 rfl fun w' h => ⟨(), trivial, ?_, h.sub (by repeat (first | exact TakeL.nil | (apply TakeL.cons; · repeat (first | exact Take1.head | apply Take1.tail))))⟩
            refine ret_bool ?_
            simp only [decide_eq_true_eq, decide_eq_false_iff_not] at *
            simp [mayB, *]
          · refine WL.on rfl rfl ?_
            refine WL.y (Yl.field fo33_5 rfl) rfl ?_ -- t28
            refine WL.on rfl rfl ?_
            refine WL.y (Yl.load on31 rfl (by repeat (first | exact Take1.head | apply Take1.tail)) (Rc.c20 h)) rfl ?_ -- t29
            refine WL.on rfl rfl ?_
            refine WL.y (Yl.field fo33_4 rfl) rfl ?_ -- t30
            refine WL.on rfl rfl ?_
            refine WL.y (Yl.load on31 rfl (by repeat (first | exact Take1.head | apply Take1.tail)) (Rc.c19 h)) rfl ?_ -- t31
            refine WL.on rfl rfl ?_
            refine WL.y (Yl.geq rfl rfl) rfl ?_ -- t32
            refine WL.on rfl rfl ?_
            refine WL.y (Yl.move rfl) rfl ?_ -- t33
            refine WL.both (t := 33) rfl (fun g33 => ?_) (fun g33 => ?_)
            · refine WL.on rfl rfl ?_
              refine WL.y (Yl.field fo33_5 rfl) rfl ?_ -- t34
              refine WL.on rfl rfl ?_
              refine WL.y (Yl.load on31 rfl (by repeat (first | exact Take1.head | apply Take1.tail)) (Rc.c20 h)) rfl ?_ -- t35
              refine WL.on rfl rfl ?_
              refine WL.y (Yl.field fo33_6 rfl) rfl ?_ -- t36
              refine WL.on rfl rfl ?_
              refine WL.y (Yl.load on31 rfl (by repeat (first | exact Take1.head | apply Take1.tail)) (Rc.c21 h)) rfl ?_ -- t37
              refine WL.on rfl rfl ?_
              refine WL.y (Yl.leq rfl rfl) rfl ?_ -- t38
              refine WL.on rfl rfl ?_
              refine WL.y (Yl.pickT rfl rfl) rfl ?_ -- t39
              refine WL.on rfl rfl ?_
              refine WL.y (Yl.pickF rfl rfl) rfl ?_ -- t40
              refine WL.y (Yl.pickT rfl rfl) rfl ?_ -- t41
              refine WL.y (Yl.assign rfl) rfl ?_ -- t2
              refine WL.nil ?_
              refine WC.ret ?_
              repeat (first | (with_reducible refine peelT ?_) | (with_reducible refine peelB ?_) | (with_reducible refine peelTX ?_) | (with_reducible refine peelBX ?_) | (with_reducible refine peelBN ?_) | (with_reducible refine peelBO rfl ?_))
              refine ret1 (.inr rfl) Tryz.results48 rfl fun w' h => ⟨(), trivial, ?_, h.sub (by repeat (first | exact TakeL.nil | (apply TakeL.cons; · repeat (first | exact Take1.head | apply Take1.tail))))⟩
              refine ret_bool ?_
              simp only [decide_eq_true_eq, decide_eq_false_iff_not] at *
              simp [mayB, *]
            · refine WL.off rfl rfl rfl rfl ?_ -- t34
              refine WL.off rfl rfl rfl rfl ?_ -- t35
              refine WL.off rfl rfl rfl rfl ?_ -- t36
              refine WL.off rfl rfl rfl rfl ?_ -- t37
              refine WL.off rfl rfl rfl rfl ?_ -- t38
              refine WL.on rfl rfl ?_
              refine WL.y (Yl.pickF rfl rfl) rfl ?_ -- t39
              refine WL.on rfl rfl ?_
              refine WL.y (Yl.pickF rfl rfl) rfl ?_ -- t40
              refine WL.y (Yl.pickT rfl rfl) rfl ?_ -- t41
              refine WL.y (Yl.assign rfl) rfl ?_ -- t2
              refine WL.nil ?_
              refine WC.ret ?_
              repeat (first | (with_reducible refine peelT ?_) | (with_reducible refine peelB ?_) | (with_reducible refine peelTX ?_) | (with_reducible refine peelBX ?_) | (with_reducible refine peelBN ?_) | (with_reducible refine peelBO rfl ?_))
              refine ret1 (.inr rfl) Tryz.results48 rfl fun w' h => ⟨(), trivial, ?_, h.sub (by repeat (first | exact TakeL.nil | (apply TakeL.cons; · repeat (first | exact Take1.head | apply Take1.tail))))⟩
              refine ret_bool ?_
              simp only [decide_eq_true_eq, decide_eq_false_iff_not] at *
              simp [mayB, *]
        · refine WL.off rfl rfl rfl rfl ?_ -- t24
          refine WL.off rfl rfl rfl rfl ?_ -- t25
          refine WL.off rfl rfl rfl rfl ?_ -- t26
          refine WL.off rfl rfl rfl rfl ?_ -- t27
          refine WL.offU rfl rfl rfl ?_ -- t28
          refine WL.offU rfl rfl rfl ?_ -- t29
          refine WL.offU rfl rfl rfl ?_ -- t30
          refine WL.offU rfl rfl rfl ?_ -- t31
          refine WL.offU rfl rfl rfl ?_ -- t32
          refine WL.offU rfl rfl rfl ?_ -- t33
          refine WL.offU rfl rfl rfl ?_ -- t34
          refine WL.offU rfl rfl rfl ?_ -- t35
          refine WL.offU rfl rfl rfl ?_ -- t36
          refine WL.offU rfl rfl rfl ?_ -- t37
          refine WL.offU rfl rfl rfl ?_ -- t38
          refine WL.offU rfl rfl rfl ?_ -- t39
          refine WL.off rfl rfl rfl rfl ?_ -- t40
          refine WL.y (Yl.pickF rfl rfl) rfl ?_ -- t41
          refine WL.y (Yl.assign rfl) rfl ?_ -- t2
          refine WL.nil ?_
          refine WC.ret ?_
          repeat (first | (with_reducible refine peelT ?_) | (with_reducible refine peelB ?_) | (with_reducible refine peelTX ?_) | (with_reducible refine peelBX ?_) | (with_reducible refine peelBN ?_) | (with_reducible refine peelBO rfl ?_))
          refine ret1 (.inr rfl) Tryz.results48 rfl fun w' h => ⟨(), trivial, ?_, h.sub (by repeat (first | exact TakeL.nil | (apply TakeL.cons; · repeat (first | exact Take1.head | apply Take1.tail))))⟩
          refine ret_bool ?_
          simp only [decide_eq_true_eq, decide_eq_false_iff_not] at *
          simp [mayB, *]
      · refine WL.off rfl rfl rfl rfl ?_ -- t17
        refine WL.off rfl rfl rfl rfl ?_ -- t18
        refine WL.off rfl rfl rfl rfl ?_ -- t19
        refine WL.off rfl rfl rfl rfl ?_ -- t20
        refine WL.off rfl rfl rfl rfl ?_ -- t21
        refine WL.y (Yl.pickF rfl rfl) rfl ?_ -- t22
        refine WL.y (Yl.move rfl) rfl ?_ -- t23
        refine WL.off rfl rfl rfl rfl ?_ -- t24
        refine WL.off rfl rfl rfl rfl ?_ -- t25
        refine WL.off rfl rfl rfl rfl ?_ -- t26
        refine WL.off rfl rfl rfl rfl ?_ -- t27
        refine WL.offU rfl rfl rfl ?_ -- t28
        refine WL.offU rfl rfl rfl ?_ -- t29
        refine WL.offU rfl rfl rfl ?_ -- t30
        refine WL.offU rfl rfl rfl ?_ -- t31
        refine WL.offU rfl rfl rfl ?_ -- t32
        refine WL.offU rfl rfl rfl ?_ -- t33
        refine WL.offU rfl rfl rfl ?_ -- t34
        refine WL.offU rfl rfl rfl ?_ -- t35
        refine WL.offU rfl rfl rfl ?_ -- t36
        refine WL.offU rfl rfl rfl ?_ -- t37
        refine WL.offU rfl rfl rfl ?_ -- t38
        refine WL.offU rfl rfl rfl ?_ -- t39
        refine WL.off rfl rfl rfl rfl ?_ -- t40
        refine WL.y (Yl.pickF rfl rfl) rfl ?_ -- t41
        refine WL.y (Yl.assign rfl) rfl ?_ -- t2
        refine WL.nil ?_
        refine WC.ret ?_
        repeat (first | (with_reducible refine peelT ?_) | (with_reducible refine peelB ?_) | (with_reducible refine peelTX ?_) | (with_reducible refine peelBX ?_) | (with_reducible refine peelBN ?_) | (with_reducible refine peelBO rfl ?_))
        refine ret1 (.inr rfl) Tryz.results48 rfl fun w' h => ⟨(), trivial, ?_, h.sub (by repeat (first | exact TakeL.nil | (apply TakeL.cons; · repeat (first | exact Take1.head | apply Take1.tail))))⟩
        refine ret_bool ?_
        simp only [decide_eq_true_eq, decide_eq_false_iff_not] at *
        simp [mayB, *]
    · refine WL.off rfl rfl rfl rfl ?_ -- t12
      refine WL.off rfl rfl rfl rfl ?_ -- t13
      refine WL.off rfl rfl rfl rfl ?_ -- t14
      refine WL.y (Yl.pickF rfl rfl) rfl ?_ -- t15
      refine WL.y (Yl.move rfl) rfl ?_ -- t16
      refine WL.off rfl rfl rfl rfl ?_ -- t17
      refine WL.off rfl rfl rfl rfl ?_ -- t18
      refine WL.off rfl rfl rfl rfl ?_ -- t19
      refine WL.off rfl rfl rfl rfl ?_ -- t20
      refine WL.off rfl rfl rfl rfl ?_ -- t21
      refine WL.y (Yl.pickF rfl rfl) rfl ?_ -- t22
      refine WL.y (Yl.move rfl) rfl ?_ -- t23
      refine WL.off rfl rfl rfl rfl ?_ -- t24
      refine WL.off rfl rfl rfl rfl ?_ -- t25
      refine WL.off rfl rfl rfl rfl ?_ -- t26
      refine WL.off rfl rfl rfl rfl ?_ -- t27
      refine WL.offU rfl rfl rfl ?_ -- t28
      refine WL.offU rfl rfl rfl ?_ -- t29
      refine WL.offU rfl rfl rfl ?_ -- t30
      refine WL.offU rfl rfl rfl ?_ -- t31
      refine WL.offU rfl rfl rfl ?_ -- t32
      refine WL.offU rfl rfl rfl ?_ -- t33
      refine WL.offU rfl rfl rfl ?_ -- t34
      refine WL.offU rfl rfl rfl ?_ -- t35
      refine WL.offU rfl rfl rfl ?_ -- t36
      refine WL.offU rfl rfl rfl ?_ -- t37
      refine WL.offU rfl rfl rfl ?_ -- t38
      refine WL.offU rfl rfl rfl ?_ -- t39
      refine WL.off rfl rfl rfl rfl ?_ -- t40
      refine WL.y (Yl.pickF rfl rfl) rfl ?_ -- t41
      refine WL.y (Yl.assign rfl) rfl ?_ -- t2
      refine WL.nil ?_
      refine WC.ret ?_
      repeat (first | (with_reducible refine peelT ?_) | (with_reducible refine peelB ?_) | (with_reducible refine peelTX ?_) | (with_reducible refine peelBX ?_) | (with_reducible refine peelBN ?_) | (with_reducible refine peelBO rfl ?_))
      refine ret1 (.inr rfl) Tryz.results48 rfl fun w' h => ⟨(), trivial, ?_, h.sub (by repeat (first | exact TakeL.nil | (apply TakeL.cons; · repeat (first | exact Take1.head | apply Take1.tail))))⟩
      refine ret_bool ?_
      simp only [decide_eq_true_eq, decide_eq_false_iff_not] at *
      simp [mayB, *]
  · refine WL.off rfl rfl rfl rfl ?_ -- t7
    refine WL.off rfl rfl rfl rfl ?_ -- t8
    refine WL.off rfl rfl rfl rfl ?_ -- t9
    refine WL.y (Yl.pickF rfl rfl) rfl ?_ -- t10
    refine WL.y (Yl.move rfl) rfl ?_ -- t11
    refine WL.off rfl rfl rfl rfl ?_ -- t12
    refine WL.off rfl rfl rfl rfl ?_ -- t13
    refine WL.off rfl rfl rfl rfl ?_ -- t14
    refine WL.y (Yl.pickF rfl rfl) rfl ?_ -- t15
    refine WL.y (Yl.move rfl) rfl ?_ -- t16
    refine WL.off rfl rfl rfl rfl ?_ -- t17
    refine WL.off rfl rfl rfl rfl ?_ -- t18
    refine WL.off rfl rfl rfl rfl ?_ -- t19
    refine WL.off rfl rfl rfl rfl ?_ -- t20
    refine WL.off rfl rfl rfl rfl ?_ -- t21
    refine WL.y (Yl.pickF rfl rfl) rfl ?_ -- t22
    refine WL.y (Yl.move rfl) rfl ?_ -- t23
    refine WL.off rfl rfl rfl rfl ?_ -- t24
    refine WL.off rfl rfl rfl rfl ?_ -- t25
    refine WL.off rfl rfl rfl rfl ?_ -- t26
    refine WL.off rfl rfl rfl rfl ?_ -- t27
    refine WL.offU rfl rfl rfl ?_ -- t28
    refine WL.offU rfl rfl rfl ?_ -- t29
    refine WL.offU rfl rfl rfl ?_ -- t30
    refine WL.offU rfl rfl rfl ?_ -- t31
    refine WL.offU rfl rfl rfl ?_ -- t32
    refine WL.offU rfl rfl rfl ?_ -- t33
    refine WL.offU rfl rfl rfl ?_ -- t34
    refine WL.offU rfl rfl rfl ?_ -- t35
    refine WL.offU rfl rfl rfl ?_ -- t36
    refine WL.offU rfl rfl rfl ?_ -- t37
    refine WL.offU rfl rfl rfl ?_ -- t38
    refine WL.offU rfl rfl rfl ?_ -- t39
    refine WL.off rfl rfl rfl rfl ?_ -- t40
    refine WL.y (Yl.pickF rfl rfl) rfl ?_ -- t41
    refine WL.y (Yl.assign rfl) rfl ?_ -- t2
    refine WL.nil ?_
    refine WC.ret ?_
    repeat (first | (with_reducible refine peelT ?_) | (with_reducible refine peelB ?_) | (with_reducible refine peelTX ?_) | (with_reducible refine peelBX ?_) | (with_reducible refine peelBN ?_) | (with_reducible refine peelBO rfl ?_))
    refine ret1 (.inr rfl) Tryz.results48 rfl fun w' h => ⟨(), trivial, ?_, h.sub (by repeat (first | exact TakeL.nil | (apply TakeL.cons; · repeat (first | exact Take1.head | apply Take1.tail))))⟩
    refine ret_bool ?_
    simp only [decide_eq_true_eq, decide_eq_false_iff_not] at *
    simp [mayB, *]

theorem rmay_any (r : Rc) (hr : r.ok) (w : World) (hw : OK w (fpL []) [] w) : Fn Tryz.prog 35 [.agg r.cells.toArray] [] w (fun _ : Unit => True) (fun _ => .bool (mayB r)) (fun _ => []) := by
  have h := hr.len
  refine enterF Tryz.func35 rfl Tryz.ntmps35 rfl hw ?_
  refine WC.seq ?_
  refine WC.region ?_
  refine WL.to (To.box (cs := r.cells) rfl rfl) rfl ?_ -- t1
  intro b1
  refine WL.y (Yl.assign rfl) rfl ?_ -- t2
  refine WL.nil ?_
  refine WC.seq ?_
  refine WC.midK [(22, .bool (!gB r))] [blkR b1 33 r.cells] ?_ ?_
  · refine WC.region ?_
    refine WL.y (Yl.field fo33_1 rfl) rfl ?_ -- t3
    refine WL.y (Yl.load on5 rfl (by repeat (first | exact Take1.head | apply Take1.tail)) (Rc.c16 h)) rfl ?_ -- t4
    refine WL.y (Yl.gtr rfl rfl) rfl ?_ -- t5
    refine WL.y (Yl.move rfl) rfl ?_ -- t6
    refine WL.both (t := 6) rfl (fun g6 => ?_) (fun g6 => ?_)
    · refine WL.off rfl rfl rfl rfl ?_ -- t7
      refine WL.off rfl rfl rfl rfl ?_ -- t8
      refine WL.off rfl rfl rfl rfl ?_ -- t9
      refine WL.y (Yl.pickT rfl rfl) rfl ?_ -- t10
      refine WL.y (Yl.move rfl) rfl ?_ -- t11
      refine WL.off rfl rfl rfl rfl ?_ -- t12
      refine WL.off rfl rfl rfl rfl ?_ -- t13
      refine WL.off rfl rfl rfl rfl ?_ -- t14
      refine WL.y (Yl.pickT rfl rfl) rfl ?_ -- t15
      refine WL.y (Yl.move rfl) rfl ?_ -- t16
      refine WL.off rfl rfl rfl rfl ?_ -- t17
      refine WL.off rfl rfl rfl rfl ?_ -- t18
      refine WL.off rfl rfl rfl rfl ?_ -- t19
      refine WL.off rfl rfl rfl rfl ?_ -- t20
      refine WL.off rfl rfl rfl rfl ?_ -- t21
      refine WL.y (Yl.pickT rfl rfl) rfl ?_ -- t22
      refine WL.say (t := 22) (v' := .bool (!gB r)) rfl (by (simp only [decide_eq_true_eq, decide_eq_false_iff_not] at *; refine congrArg Value.bool ?_; unfold gB; rw [Bool.eq_iff_iff]; simp; omega)) ?_
      refine WL.nil ?_
      exact ⟨rfl, (by repeat (first | exact Sub.nil | refine Sub.cons rfl ?_)), (by repeat (first | exact Sub.nil | refine Sub.cons rfl ?_)), _, (by repeat (first | exact TakeL.nil | (apply TakeL.cons; · repeat (first | exact Take1.head | apply Take1.tail))))⟩
    · refine WL.on rfl rfl ?_
      refine WL.y (Yl.field fo33_3 rfl) rfl ?_ -- t7
      refine WL.on rfl rfl ?_
      refine WL.y (Yl.load on5 rfl (by repeat (first | exact Take1.head | apply Take1.tail)) (Rc.c18 h)) rfl ?_ -- t8
      refine WL.on rfl rfl ?_
      refine WL.y (Yl.lss rfl rfl) rfl ?_ -- t9
      refine WL.y (Yl.pickF rfl rfl) rfl ?_ -- t10
      refine WL.y (Yl.move rfl) rfl ?_ -- t11
      refine WL.both (t := 11) rfl (fun g11 => ?_) (fun g11 => ?_)
      · refine WL.off rfl rfl rfl rfl ?_ -- t12
        refine WL.off rfl rfl rfl rfl ?_ -- t13
        refine WL.off rfl rfl rfl rfl ?_ -- t14
        refine WL.y (Yl.pickT rfl rfl) rfl ?_ -- t15
        refine WL.y (Yl.move rfl) rfl ?_ -- t16
        refine WL.off rfl rfl rfl rfl ?_ -- t17
        refine WL.off rfl rfl rfl rfl ?_ -- t18
        refine WL.off rfl rfl rfl rfl ?_ -- t19
        refine WL.off rfl rfl rfl rfl ?_ -- t20
        refine WL.off rfl rfl rfl rfl ?_ -- t21
        refine WL.y (Yl.pickT rfl rfl) rfl ?_ -- t22
        refine WL.say (t := 22) (v' := .bool (!gB r)) rfl (by (simp only [decide_eq_true_eq, decide_eq_false_iff_not] at *; refine congrArg Value.bool ?_; unfold gB; rw [Bool.eq_iff_iff]; simp; omega)) ?_
        refine WL.nil ?_
        exact ⟨rfl, (by repeat (first | exact Sub.nil | refine Sub.cons rfl ?_)), (by repeat (first | exact Sub.nil | refine Sub.cons rfl ?_)), _, (by repeat (first | exact TakeL.nil | (apply TakeL.cons; · repeat (first | exact Take1.head | apply Take1.tail))))⟩
      · refine WL.on rfl rfl ?_
        refine WL.y (Yl.field fo33_3 rfl) rfl ?_ -- t12
        refine WL.on rfl rfl ?_
        refine WL.y (Yl.load on5 rfl (by repeat (first | exact Take1.head | apply Take1.tail)) (Rc.c18 h)) rfl ?_ -- t13
        refine WL.on rfl rfl ?_
        refine WL.y (Yl.gtr rfl rfl) rfl ?_ -- t14
        refine WL.y (Yl.pickF rfl rfl) rfl ?_ -- t15
        refine WL.y (Yl.move rfl) rfl ?_ -- t16
        refine WL.both (t := 16) rfl (fun g16 => ?_) (fun g16 => ?_)
        · refine WL.off rfl rfl rfl rfl ?_ -- t17
          refine WL.off rfl rfl rfl rfl ?_ -- t18
          refine WL.off rfl rfl rfl rfl ?_ -- t19
          refine WL.off rfl rfl rfl rfl ?_ -- t20
          refine WL.off rfl rfl rfl rfl ?_ -- t21
          refine WL.y (Yl.pickT rfl rfl) rfl ?_ -- t22
          refine WL.say (t := 22) (v' := .bool (!gB r)) rfl (by (simp only [decide_eq_true_eq, decide_eq_false_iff_not] at *; refine congrArg Value.bool ?_; unfold gB; rw [Bool.eq_iff_iff]; simp; omega)) ?_
          refine WL.nil ?_
          exact ⟨rfl, (by repeat (first | exact Sub.nil | refine Sub.cons rfl ?_)), (by repeat (first | exact Sub.nil | refine Sub.cons rfl ?_)), _, (by repeat (first | exact TakeL.nil | (apply TakeL.cons; · repeat (first | exact Take1.head | apply Take1.tail))))⟩
        · refine WL.on rfl rfl ?_
          refine WL.y (Yl.field fo33_6 rfl) rfl ?_ -- t17
          refine WL.on rfl rfl ?_
          refine WL.y (Yl.load on31 rfl (by repeat (first | exact Take1.head | apply Take1.tail)) (Rc.c21 h)) rfl ?_ -- t18
          refine WL.on rfl rfl ?_
          refine WL.y (Yl.field fo33_4 rfl) rfl ?_ -- t19
          refine WL.on rfl rfl ?_
          refine WL.y (Yl.load on31 rfl (by repeat (first | exact Take1.head | apply Take1.tail)) (Rc.c19 h)) rfl ?_ -- t20
          refine WL.on rfl rfl ?_
          refine WL.y (Yl.lss rfl rfl) rfl ?_ -- t21
          refine WL.y (Yl.pickF rfl rfl) rfl ?_ -- t22
          refine WL.say (t := 22) (v' := .bool (!gB r)) rfl (by (simp only [decide_eq_true_eq, decide_eq_false_iff_not] at *; refine congrArg Value.bool ?_; unfold gB; rw [Bool.eq_iff_iff]; simp; omega)) ?_
          refine WL.nil ?_
          exact ⟨rfl, (by repeat (first | exact Sub.nil | refine Sub.cons rfl ?_)), (by repeat (first | exact Sub.nil | refine Sub.cons rfl ?_)), _, (by repeat (first | exact TakeL.nil | (apply TakeL.cons; · repeat (first | exact Take1.head | apply Take1.tail))))⟩
  · refine WC.cond rfl (fun g22 => ?_) (fun g22 => ?_)
    · refine WC.seq ?_
      refine WC.region ?_
      refine WL.y (Yl.assign rfl) rfl ?_ -- t2
      refine WL.nil ?_
      refine WC.ret ?_
      repeat (first | (with_reducible refine peelT ?_) | (with_reducible refine peelB ?_) | (with_reducible refine peelTX ?_) | (with_reducible refine peelBX ?_) | (with_reducible refine peelBN ?_) | (with_reducible refine peelBO rfl ?_))
      refine ret1 (.inr rfl) Tryz.results35 rfl fun w' h => ⟨(), trivial, ?_, h.sub (by repeat (first | exact TakeL.nil | (apply TakeL.cons; · repeat (first | exact Take1.head | apply Take1.tail))))⟩
      refine ret_bool ?_
      rw [mayB_eq, show gB r = false by simpa using g22]; rfl
    · refine WC.skip ?_
      refine WC.seq ?_
      refine WC.region ?_
      refine WL.y (Yl.field fo33_5 rfl) rfl ?_ -- t23
      refine WL.y (Yl.load on31 rfl (by repeat (first | exact Take1.head | apply Take1.tail)) (Rc.c20 h)) rfl ?_ -- t24
      refine WL.y (Yl.eql rfl rfl) rfl ?_ -- t25
      refine WL.y (Yl.move rfl) rfl ?_ -- t26
      refine WL.both (t := 26) rfl (fun g26 => ?_) (fun g26 => ?_)
      · refine WL.off rfl rfl rfl rfl ?_ -- t27
        refine WL.off rfl rfl rfl rfl ?_ -- t28
        refine WL.off rfl rfl rfl rfl ?_ -- t29
        refine WL.off rfl rfl rfl rfl ?_ -- t30
        refine WL.off rfl rfl rfl rfl ?_ -- t31
        refine WL.off rfl rfl rfl rfl ?_ -- t32
        refine WL.offU rfl rfl rfl ?_ -- t33
        refine WL.offU rfl rfl rfl ?_ -- t34
        refine WL.offU rfl rfl rfl ?_ -- t35
        refine WL.offU rfl rfl rfl ?_ -- t36
        refine WL.offU rfl rfl rfl ?_ -- t37
        refine WL.off rfl rfl rfl rfl ?_ -- t38
        refine WL.y (Yl.pickT rfl rfl) rfl ?_ -- t39
        refine WL.y (Yl.assign rfl) rfl ?_ -- t2
        refine WL.nil ?_
        refine WC.ret ?_
        repeat (first | (with_reducible refine peelT ?_) | (with_reducible refine peelB ?_) | (with_reducible refine peelTX ?_) | (with_reducible refine peelBX ?_) | (with_reducible refine peelBN ?_) | (with_reducible refine peelBO rfl ?_))
        refine ret1 (.inr rfl) Tryz.results35 rfl fun w' h => ⟨(), trivial, ?_, h.sub (by repeat (first | exact TakeL.nil | (apply TakeL.cons; · repeat (first | exact Take1.head | apply Take1.tail))))⟩
        refine ret_bool ?_
        simp only [decide_eq_true_eq, decide_eq_false_iff_not] at *
        rw [mayB_eq, show gB r = true by simpa using g22]
        simp [*]
      · refine WL.on rfl rfl ?_
        refine WL.y (Yl.field fo33_4 rfl) rfl ?_ -- t27
        refine WL.on rfl rfl ?_
        refine WL.y (Yl.load on31 rfl (by repeat (first | exact Take1.head | apply Take1.tail)) (Rc.c19 h)) rfl ?_ -- t28
        refine WL.on rfl rfl ?_
        refine WL.y (Yl.field fo33_5 rfl) rfl ?_ -- t29
        refine WL.on rfl rfl ?_
        refine WL.y (Yl.load on31 rfl (by repeat (first | exact Take1.head | apply Take1.tail)) (Rc.c20 h)) rfl ?_ -- t30
        refine WL.on rfl rfl ?_
        refine WL.y (Yl.leq rfl rfl) rfl ?_ -- t31
        refine WL.on rfl rfl ?_
        refine WL.y (Yl.move rfl) rfl ?_ -- t32
        refine WL.both (t := 32) rfl (fun g32 => ?_) (fun g32 => ?_)
        · refine WL.on rfl rfl ?_
          refine WL.y (Yl.field fo33_5 rfl) rfl ?_ -- t33
          refine WL.on rfl rfl ?_
          refine WL.y (Yl.load on31 rfl (by repeat (first | exact Take1.head | apply Take1.tail)) (Rc.c20 h)) rfl ?_ -- t34
          refine WL.on rfl rfl ?_
          refine WL.y (Yl.field fo33_6 rfl) rfl ?_ -- t35
          refine WL.on rfl rfl ?_
          refine WL.y (Yl.load on31 rfl (by repeat (first | exact Take1.head | apply Take1.tail)) (Rc.c21 h)) rfl ?_ -- t36
          refine WL.on rfl rfl ?_
          refine WL.y (Yl.leq rfl rfl) rfl ?_ -- t37
          refine WL.on rfl rfl ?_
          refine WL.y (Yl.pickT rfl rfl) rfl ?_ -- t38
          refine WL.y (Yl.pickF rfl rfl) rfl ?_ -- t39
          refine WL.y (Yl.assign rfl) rfl ?_ -- t2
          refine WL.nil ?_
          refine WC.ret ?_
          repeat (first | (with_reducible refine peelT ?_) | (with_reducible refine peelB ?_) | (with_reducible refine peelTX ?_) | (with_reducible refine peelBX ?_) | (with_reducible refine peelBN ?_) | (with_reducible refine peelBO rfl ?_))
          refine ret1 (.inr rfl) Tryz.results35 rfl fun w' h => ⟨(), trivial, ?_, h.sub (by repeat (first | exact TakeL.nil | (apply TakeL.cons; · repeat (first | exact Take1.head | apply Take1.tail))))⟩
          refine ret_bool ?_
          simp only [decide_eq_true_eq, decide_eq_false_iff_not] at *
          rw [mayB_eq, show gB r = true by simpa using g22]
          simp [*]
        · refine WL.off rfl rfl rfl rfl ?_ -- t33
          refine WL.off rfl rfl rfl rfl ?_ -- t34
          refine WL.off rfl rfl rfl rfl ?_ -- t35
          refine WL.off rfl rfl rfl rfl ?_ -- t36
          refine WL.off rfl rfl rfl rfl ?_ -- t37
          refine WL.on rfl rfl ?_
          refine WL.y (Yl.pickF rfl rfl) rfl ?_ -- t38
          refine WL.y (Yl.pickF rfl rfl) rfl ?_ -- t39
          refine WL.y (Yl.assign rfl) rfl ?_ -- t2
          refine WL.nil ?_
          refine WC.ret ?_
          repeat (first | (with_reducible refine peelT ?_) | (with_reducible refine peelB ?_) | (with_reducible refine peelTX ?_) | (with_reducible refine peelBX ?_) | (with_reducible refine peelBN ?_) | (with_reducible refine peelBO rfl ?_))
          refine ret1 (.inr rfl) Tryz.results35 rfl fun w' h => ⟨(), trivial, ?_, h.sub (by repeat (first | exact TakeL.nil | (apply TakeL.cons; · repeat (first | exact Take1.head | apply Take1.tail))))⟩
          refine ret_bool ?_
          simp only [decide_eq_true_eq, decide_eq_false_iff_not] at *
          rw [mayB_eq, show gB r = true by simpa using g22]
          simp [*]

theorem of_any (bs : List Int) (v : Value) (hB : Bytes bs) (h8 : bs.length ≤ 8) (w : World) (hx : RdS w (fpL []) v 1 bs.length (ints .u8 bs)) (hw : OK w (fpL []) [] w) :
    Fn Tryz.prog 64 [v] [] w (fun _ : Unit => True) (fun _ => .int .u64 (val bs)) (fun _ => []) := by
  obtain ⟨al, cl, rfl, hcl, hml⟩ := hx.rd.form
  refine enterF Tryz.func64 rfl Tryz.ntmps64 rfl hw ?_
  refine WC.seq ?_
  refine WC.region ?_
  refine WL.y (Yl.assign rfl) rfl ?_ -- t2
  refine WL.nil ?_
  refine WC.seq ?_
  refine WC.region ?_
  refine WL.y (Yl.assign rfl) rfl ?_ -- t3
  refine WL.nil ?_
  refine WC.seq ?_
  refine WC.seq ?_
  refine WC.region ?_
  refine WL.y (Yl.assign rfl) rfl ?_ -- t4
  refine WL.nil ?_
  refine WC.block ?_
  refine WC.loop (α := Nat) (fun j => [(0, .slice al bs.length cl), (3, .int .u64 (val (bs.take j))), (4, .int .i64 (j : Int))]) (fun _ => []) (fun j => j ≤ bs.length) (fun j => bs.length - j) 0 (Nat.zero_le _) ⟨(by repeat (first | exact Sub.nil | refine Sub.cons rfl ?_)), _, (by repeat (first | exact TakeL.nil | (apply TakeL.cons; · repeat (first | exact Take1.head | apply Take1.tail))))⟩ ?_
  intro j hj
  refine WC.seq ?_
  refine WC.seq ?_
  refine WC.region ?_
  refine WL.y (Yl.move rfl) rfl ?_ -- t5
  refine WL.y (Yl.move rfl) rfl ?_ -- t6
  refine WL.y (Yl.len un23 rfl) rfl ?_ -- t7
  refine WL.y (Yl.lss rfl rfl) rfl ?_ -- t8
  refine WL.nil ?_
  refine WC.condD rfl (fun g8 => ?_) (fun g8 => ?_)
  · refine WC.skip ?_
    refine WC.seq ?_
    refine WC.block ?_
    refine WC.region ?_
    refine WL.y (Yl.move rfl) rfl ?_ -- t11
    have hx2 := hB.getD (i := j) (by omega)
    have hv := val_range (hB.take j)
    have hp := pow256 (n := (bs.take j).length + 1) (by simp; omega)
    rw [Int.pow_succ] at hp
    refine WL.y (Yl.mul rfl rfl (u64_in _ (by omega))) rfl ?_
    refine WL.y (Yl.move rfl) rfl ?_ -- t13
    refine WL.y (Yl.move rfl) rfl ?_ -- t14
    refine WL.y (Yl.index un23 sz5 rfl rfl (Reads.s hx) rfl (by omega)) rfl ?_ -- t15
    refine WL.y (Yl.loadE on5 rfl (Reads.s hx) (ints_get .u8 bs j (by omega))) rfl ?_ -- t16
    refine WL.y (Yl.conv un5 un31 rfl (u64_in _ (by omega))) rfl ?_ -- t17
    refine WL.y (Yl.add rfl rfl (u64_in _ (by omega))) rfl ?_
    refine WL.say (t := 18) (v' := .int .u64 (val (bs.take (j + 1)))) rfl (by rw [take_getD (show j < bs.length by omega), val_snoc, Int.mul_comm]) ?_
    refine WL.y (Yl.assign rfl) rfl ?_ -- t3
    refine WL.nil ?_
    refine WC.region ?_
    refine WL.y (Yl.move rfl) rfl ?_ -- t9
    refine WL.y (Yl.add rfl rfl (IntWalk.i64_in _ (by omega))) rfl ?_ -- t10
    refine WL.y (Yl.assign rfl) rfl ?_ -- t4
    refine WL.nil ?_
    exact ⟨rfl, j + 1, by omega, by omega, (by repeat (first | exact Sub.nil | refine Sub.cons rfl ?_)), _, (by repeat (first | exact TakeL.nil | (apply TakeL.cons; · repeat (first | exact Take1.head | apply Take1.tail))))⟩
  · refine WC.exit ?_
    refine WC.seq ?_
    refine WC.region ?_
    refine WL.y (Yl.move rfl) rfl ?_ -- t19
    refine WL.y (Yl.assign rfl) rfl ?_ -- t2
    refine WL.nil ?_
    refine WC.ret ?_
    repeat (first | (with_reducible refine peelT ?_) | (with_reducible refine peelB ?_) | (with_reducible refine peelTX ?_) | (with_reducible refine peelBX ?_) | (with_reducible refine peelBN ?_) | (with_reducible refine peelBO rfl ?_))
    have hj2 : j = bs.length := by omega
    subst hj2
    exact ret1 (.inr rfl) Tryz.results64 rfl fun w' h => ⟨(), trivial, by rw [List.take_length], h.sub (by repeat (first | exact TakeL.nil | (apply TakeL.cons; · repeat (first | exact Take1.head | apply Take1.tail))))⟩

theorem ofId_any (bs : List Int) (v : Value) (hl : 16 ≤ bs.length) (w : World) (hx : RdS w (fpL []) v 1 bs.length (ints .u8 bs)) (hw : OK w (fpL []) [] w) :
    Fn Tryz.prog 63 [v] [] w (fun _ : Unit => True) (fun _ => .agg (ints .u8 (bs.take 16)).toArray) (fun _ => []) := by
  obtain ⟨al, cl, rfl, hcl, hml⟩ := hx.rd.form
  refine enterF Tryz.func63 rfl Tryz.ntmps63 rfl hw ?_
  refine WC.seq ?_
  refine WC.region ?_
  refine WL.to (To.alloc zr30 rfl) rfl ?_ -- t2
  intro b2
  refine WL.nil ?_
  refine WC.seq ?_
  refine WC.region ?_
  refine WL.to (To.alloc zr30 rfl) rfl ?_ -- t3
  intro b3
  refine WL.nil ?_
  refine WC.seq ?_
  refine WC.seq ?_
  refine WC.region ?_
  refine WL.y (Yl.assign rfl) rfl ?_ -- t4
  refine WL.nil ?_
  refine WC.block ?_
  refine WC.loop (α := Nat) (fun j => [(0, .slice al bs.length cl), (2, .pointer (some ⟨b2, 0, none⟩)), (3, .pointer (some ⟨b3, 0, none⟩)), (4, .int .i64 (j : Int))]) (fun j => [blkR b3 30 (ints .u8 (bs.take j ++ List.replicate (16 - j) 0)), blkR b2 30 (List.replicate 16 (.int .u8 0))]) (fun j => j ≤ 16) (fun j => 16 - j) 0 (Nat.zero_le _) ⟨(by repeat (first | exact Sub.nil | refine Sub.cons rfl ?_)), _, (by repeat (first | exact TakeL.nil | (apply TakeL.cons; · repeat (first | exact Take1.head | apply Take1.tail))))⟩ ?_
  intro j hj
  have hlen : (ints .u8 (bs.take j ++ List.replicate (16 - j) 0)).length = 16 := by simp [ints]; omega
  refine WC.seq ?_
  refine WC.seq ?_
  refine WC.region ?_
  refine WL.y (Yl.move rfl) rfl ?_ -- t5
  refine WL.y (Yl.lss rfl rfl) rfl ?_ -- t6
  refine WL.nil ?_
  refine WC.condD rfl (fun g6 => ?_) (fun g6 => ?_)
  · refine WC.skip ?_
    refine WC.seq ?_
    refine WC.block ?_
    refine WC.region ?_
    refine WL.y (Yl.move rfl) rfl ?_ -- t9
    refine WL.y (Yl.move rfl) rfl ?_ -- t10
    refine WL.y (Yl.move rfl) rfl ?_ -- t11
    refine WL.y (Yl.index un23 sz5 rfl rfl (Reads.s hx) rfl (by omega)) rfl ?_ -- t12
    refine WL.y (Yl.loadE on5 rfl (Reads.s hx) (ints_get .u8 bs j (by omega))) rfl ?_ -- t13
    refine WL.y (Yl.indexA un30 sz5 rfl rfl rfl (by omega)) rfl ?_ -- t14
    refine WL.sto (Sto.one sz5 rfl rfl (by repeat (first | exact Take1.head | apply Take1.tail)) rfl (cs' := ints .u8 (bs.take (j + 1) ++ List.replicate (16 - (j + 1)) 0)) (ltB (by rw [hlen]; omega)) (ofId_step (by omega) (by omega))) (fun _ h => nomatch h) ?_
    refine WL.nil ?_
    refine WC.region ?_
    refine WL.y (Yl.move rfl) rfl ?_ -- t7
    refine WL.y (Yl.add rfl rfl (IntWalk.i64_in _ (by omega))) rfl ?_ -- t8
    refine WL.y (Yl.assign rfl) rfl ?_ -- t4
    refine WL.nil ?_
    exact ⟨rfl, j + 1, by omega, by omega, (by repeat (first | exact Sub.nil | refine Sub.cons rfl ?_)), _, (by repeat (first | exact TakeL.nil | (apply TakeL.cons; · repeat (first | exact Take1.head | apply Take1.tail))))⟩
  · refine WC.exit ?_
    refine WC.seq ?_
    refine WC.region ?_
    refine WL.y (Yl.loadN ag30 rfl (by repeat (first | exact Take1.head | apply Take1.tail)) (leB (by rw [hlen]; omega)) (show _ = ints .u8 (bs.take 16) by rw [List.drop_zero, List.take_of_length_le (by rw [hlen]; omega), show j = 16 by omega]; simp)) rfl ?_ -- t15
    refine WL.sto (Sto.agg sz30 rfl rfl (by repeat (first | exact Take1.head | apply Take1.tail)) (ints_one _ _) (by simp [ints]; omega) (by rfl) (he := (by rfl))) (fun _ h => nomatch h) ?_ -- st 2
    refine WL.nil ?_
    refine WC.ret ?_
    repeat (first | (with_reducible refine peelT ?_) | (with_reducible refine peelB ?_) | (with_reducible refine peelTX ?_) | (with_reducible refine peelBX ?_) | (with_reducible refine peelBN ?_) | (with_reducible refine peelBO rfl ?_))
    refine retC1 (.inr rfl) Tryz.results63 ag30 rfl (by repeat (first | exact Take1.head | apply Take1.tail)) (by simp [ints]; omega) fun w' h => ⟨(), trivial, ?_, h.sub (by repeat (first | exact TakeL.nil | (apply TakeL.cons; · repeat (first | exact Take1.head | apply Take1.tail))))⟩
    simp [List.drop_of_length_le]
end Go.Proofs.YtmcdbjbkkejbbaaGreat
