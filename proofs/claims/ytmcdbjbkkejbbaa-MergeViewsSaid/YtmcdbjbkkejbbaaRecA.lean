/- Records: whether they may be; the reference's numbers and ids: the walks. -/
import Derived.Test.YtmcdbjbkkejbbaaRecP
namespace Go.Proofs.Ytmcdbjbkkejbbaa
open Go Go.RowKit

theorem flRec : Flat Try.prog 31 rcLeaf := Flat.mk' 5 (by decide) (by kernel_rfl) (by kernel_rfl)

theorem may_any (r : Rc) (hr : r.ok) (w : World) (hw : OK w (fpL []) [] w) : Fn Try.prog 32 [.agg r.cells.toArray] [] w (fun _ : Unit => True) (fun _ => .bool (mayB r)) (fun _ => []) := by
  have h := hr.len
  refine enterF Try.func32 rfl Try.ntmps32 rfl hw ?_
  refine WC.seq ?_
  refine WC.region ?_
  refine WL.to (To.box (cs := r.cells) rfl rfl) rfl ?_ -- t1
  intro b1
  refine WL.y (Yl.assign rfl) rfl ?_ -- t2
  refine WL.nil ?_
  refine WC.seq ?_
  refine WC.region ?_
  refine WL.y (Yl.field fo31_1 rfl) rfl ?_ -- t3
  refine WL.y (Yl.load on5 rfl (by repeat (first | exact Take1.head | apply Take1.tail)) (Rc.c16 h)) rfl ?_ -- t4
  refine WL.y (Yl.lss rfl rfl) rfl ?_ -- t5
  refine WL.y (Yl.move rfl) rfl ?_ -- t6
  refine WL.both (t := 6) rfl (fun g6 => ?_) (fun g6 => ?_)
  · refine WL.on rfl rfl ?_
    refine WL.y (Yl.field fo31_3 rfl) rfl ?_ -- t7
    refine WL.on rfl rfl ?_
    refine WL.y (Yl.load on5 rfl (by repeat (first | exact Take1.head | apply Take1.tail)) (Rc.c18 h)) rfl ?_ -- t8
    refine WL.on rfl rfl ?_
    refine WL.y (Yl.geq rfl rfl) rfl ?_ -- t9
    refine WL.y (Yl.pickT rfl rfl) rfl ?_ -- t10
    refine WL.y (Yl.move rfl) rfl ?_ -- t11
    refine WL.both (t := 11) rfl (fun g11 => ?_) (fun g11 => ?_)
    · refine WL.on rfl rfl ?_
      refine WL.y (Yl.field fo31_3 rfl) rfl ?_ -- t12
      refine WL.on rfl rfl ?_
      refine WL.y (Yl.load on5 rfl (by repeat (first | exact Take1.head | apply Take1.tail)) (Rc.c18 h)) rfl ?_ -- t13
      refine WL.on rfl rfl ?_
      refine WL.y (Yl.leq rfl rfl) rfl ?_ -- t14
      refine WL.y (Yl.pickT rfl rfl) rfl ?_ -- t15
      refine WL.y (Yl.move rfl) rfl ?_ -- t16
      refine WL.both (t := 16) rfl (fun g16 => ?_) (fun g16 => ?_)
      · refine WL.on rfl rfl ?_
        refine WL.y (Yl.field fo31_4 rfl) rfl ?_ -- t17
        refine WL.on rfl rfl ?_
        refine WL.y (Yl.load on29 rfl (by repeat (first | exact Take1.head | apply Take1.tail)) (Rc.c19 h)) rfl ?_ -- t18
        refine WL.on rfl rfl ?_
        refine WL.y (Yl.field fo31_6 rfl) rfl ?_ -- t19
        refine WL.on rfl rfl ?_
        refine WL.y (Yl.load on29 rfl (by repeat (first | exact Take1.head | apply Take1.tail)) (Rc.c21 h)) rfl ?_ -- t20
        refine WL.on rfl rfl ?_
        refine WL.y (Yl.leq rfl rfl) rfl ?_ -- t21
        refine WL.y (Yl.pickT rfl rfl) rfl ?_ -- t22
        refine WL.y (Yl.move rfl) rfl ?_ -- t23
        refine WL.both (t := 23) rfl (fun g23 => ?_) (fun g23 => ?_)
        · refine WL.on rfl rfl ?_
          refine WL.y (Yl.field fo31_5 rfl) rfl ?_ -- t24
          refine WL.on rfl rfl ?_
          refine WL.y (Yl.load on29 rfl (by repeat (first | exact Take1.head | apply Take1.tail)) (Rc.c20 h)) rfl ?_ -- t25
          refine WL.on rfl rfl ?_
          refine WL.y (Yl.eql rfl rfl) rfl ?_ -- t26
          refine WL.on rfl rfl ?_
          refine WL.y (Yl.move rfl) rfl ?_ -- t27
          refine WL.both (t := 27) rfl (fun g27 => ?_) (fun g27 => ?_)
          · refine WL.off rfl rfl rfl rfl ?_ -- t28
            refine WL.off rfl rfl rfl rfl ?_ -- t29
            refine WL.off rfl rfl rfl rfl ?_ -- t30
            refine WL.off rfl rfl rfl rfl ?_ -- t31
            refine WL.off rfl rfl rfl rfl ?_ -- t32
            refine WL.off rfl rfl rfl rfl ?_ -- t33
            refine WL.offU rfl rfl rfl ?_ -- t34
            refine WL.offU rfl rfl rfl ?_ -- t35
            refine WL.offU rfl rfl rfl ?_ -- t36
            refine WL.offU rfl rfl rfl ?_ -- t37
            refine WL.offU rfl rfl rfl ?_ -- t38
            refine WL.off rfl rfl rfl rfl ?_ -- t39
            refine WL.on rfl rfl ?_
            refine WL.y (Yl.pickT rfl rfl) rfl ?_ -- t40
            refine WL.y (Yl.pickT rfl rfl) rfl ?_ -- t41
            refine WL.y (Yl.assign rfl) rfl ?_ -- t2
            refine WL.nil ?_
            refine WC.ret ?_
            repeat (first | (with_reducible refine peelT ?_) | (with_reducible refine peelB ?_) | (with_reducible refine peelTX ?_) | (with_reducible refine peelBX ?_) | (with_reducible refine peelBN ?_) | (with_reducible refine peelBO rfl ?_))
            refine ret1 (.inr rfl) Try.results32 rfl fun w' h => ⟨(), trivial, ?_, h.sub (by repeat (first | exact TakeL.nil | (apply TakeL.cons; · repeat (first | exact Take1.head | apply Take1.tail))))⟩
            refine ret_bool ?_
            simp only [decide_eq_true_eq, decide_eq_false_iff_not] at *
            simp [mayB, *]
          · refine WL.on rfl rfl ?_
            refine WL.y (Yl.field fo31_5 rfl) rfl ?_ -- t28
            refine WL.on rfl rfl ?_
            refine WL.y (Yl.load on29 rfl (by repeat (first | exact Take1.head | apply Take1.tail)) (Rc.c20 h)) rfl ?_ -- t29
            refine WL.on rfl rfl ?_
            refine WL.y (Yl.field fo31_4 rfl) rfl ?_ -- t30
            refine WL.on rfl rfl ?_
            refine WL.y (Yl.load on29 rfl (by repeat (first | exact Take1.head | apply Take1.tail)) (Rc.c19 h)) rfl ?_ -- t31
            refine WL.on rfl rfl ?_
            refine WL.y (Yl.geq rfl rfl) rfl ?_ -- t32
            refine WL.on rfl rfl ?_
            refine WL.y (Yl.move rfl) rfl ?_ -- t33
            refine WL.both (t := 33) rfl (fun g33 => ?_) (fun g33 => ?_)
            · refine WL.on rfl rfl ?_
              refine WL.y (Yl.field fo31_5 rfl) rfl ?_ -- t34
              refine WL.on rfl rfl ?_
              refine WL.y (Yl.load on29 rfl (by repeat (first | exact Take1.head | apply Take1.tail)) (Rc.c20 h)) rfl ?_ -- t35
              refine WL.on rfl rfl ?_
              refine WL.y (Yl.field fo31_6 rfl) rfl ?_ -- t36
              refine WL.on rfl rfl ?_
              refine WL.y (Yl.load on29 rfl (by repeat (first | exact Take1.head | apply Take1.tail)) (Rc.c21 h)) rfl ?_ -- t37
              refine WL.on rfl rfl ?_
              refine WL.y (Yl.leq rfl rfl) rfl ?_ -- t38
              refine WL.on rfl rfl ?_
              refine WL.y (Yl.pickT rfl rfl) rfl ?_ -- t39
              refine WL.on rfl rfl ?_
              refine WL.y (Yl.pickF rfl rfl) rfl ?_ -- t40
              refine WL.y (Yl.pickT rfl rfl) rfl ?_ -- t41
              refine WL.y (Yl.assign rfl) rfl ?_ -- t2
              refine WL.nil ?_
              refine WC.ret ?_
              repeat (first | (with_reducible refine peelT ?_) | (with_reducible refine peelB ?_) | (with_reducible refine peelTX ?_) | (with_reducible refine peelBX ?_) | (with_reducible refine peelBN ?_) | (with_reducible refine peelBO rfl ?_))
              refine ret1 (.inr rfl) Try.results32 rfl fun w' h => ⟨(), trivial, ?_, h.sub (by repeat (first | exact TakeL.nil | (apply TakeL.cons; · repeat (first | exact Take1.head | apply Take1.tail))))⟩
              refine ret_bool ?_
              simp only [decide_eq_true_eq, decide_eq_false_iff_not] at *
              simp [mayB, *]
            · refine WL.off rfl rfl rfl rfl ?_ -- t34
              refine WL.off rfl rfl rfl rfl ?_ -- t35
              refine WL.off rfl rfl rfl rfl ?_ -- t36
              refine WL.off rfl rfl rfl rfl ?_ -- t37
              refine WL.off rfl rfl rfl rfl ?_ -- t38
              refine WL.on rfl rfl ?_
              refine WL.y (Yl.pickF rfl rfl) rfl ?_ -- t39
              refine WL.on rfl rfl ?_
              refine WL.y (Yl.pickF rfl rfl) rfl ?_ -- t40
              refine WL.y (Yl.pickT rfl rfl) rfl ?_ -- t41
              refine WL.y (Yl.assign rfl) rfl ?_ -- t2
              refine WL.nil ?_
              refine WC.ret ?_
              repeat (first | (with_reducible refine peelT ?_) | (with_reducible refine peelB ?_) | (with_reducible refine peelTX ?_) | (with_reducible refine peelBX ?_) | (with_reducible refine peelBN ?_) | (with_reducible refine peelBO rfl ?_))
              refine ret1 (.inr rfl) Try.results32 rfl fun w' h => ⟨(), trivial, ?_, h.sub (by repeat (first | exact TakeL.nil | (apply TakeL.cons; · repeat (first | exact Take1.head | apply Take1.tail))))⟩
              refine ret_bool ?_
              simp only [decide_eq_true_eq, decide_eq_false_iff_not] at *
              simp [mayB, *]
        · refine WL.off rfl rfl rfl rfl ?_ -- t24
          refine WL.off rfl rfl rfl rfl ?_ -- t25
          refine WL.off rfl rfl rfl rfl ?_ -- t26
          refine WL.off rfl rfl rfl rfl ?_ -- t27
          refine WL.offU rfl rfl rfl ?_ -- t28
          refine WL.offU rfl rfl rfl ?_ -- t29
          refine WL.offU rfl rfl rfl ?_ -- t30
          refine WL.offU rfl rfl rfl ?_ -- t31
          refine WL.offU rfl rfl rfl ?_ -- t32
          refine WL.offU rfl rfl rfl ?_ -- t33
          refine WL.offU rfl rfl rfl ?_ -- t34
          refine WL.offU rfl rfl rfl ?_ -- t35
          refine WL.offU rfl rfl rfl ?_ -- t36
          refine WL.offU rfl rfl rfl ?_ -- t37
          refine WL.offU rfl rfl rfl ?_ -- t38
          refine WL.offU rfl rfl rfl ?_ -- t39
          refine WL.off rfl rfl rfl rfl ?_ -- t40
          refine WL.y (Yl.pickF rfl rfl) rfl ?_ -- t41
          refine WL.y (Yl.assign rfl) rfl ?_ -- t2
          refine WL.nil ?_
          refine WC.ret ?_
          repeat (first | (with_reducible refine peelT ?_) | (with_reducible refine peelB ?_) | (with_reducible refine peelTX ?_) | (with_reducible refine peelBX ?_) | (with_reducible refine peelBN ?_) | (with_reducible refine peelBO rfl ?_))
          refine ret1 (.inr rfl) Try.results32 rfl fun w' h => ⟨(), trivial, ?_, h.sub (by repeat (first | exact TakeL.nil | (apply TakeL.cons; · repeat (first | exact Take1.head | apply Take1.tail))))⟩
          refine ret_bool ?_
          simp only [decide_eq_true_eq, decide_eq_false_iff_not] at *
          simp [mayB, *]
      · refine WL.off rfl rfl rfl rfl ?_ -- t17
        refine WL.off rfl rfl rfl rfl ?_ -- t18
        refine WL.off rfl rfl rfl rfl ?_ -- t19
        refine WL.off rfl rfl rfl rfl ?_ -- t20
        refine WL.off rfl rfl rfl rfl ?_ -- t21
        refine WL.y (Yl.pickF rfl rfl) rfl ?_ -- t22
        refine WL.y (Yl.move rfl) rfl ?_ -- t23
        refine WL.off rfl rfl rfl rfl ?_ -- t24
        refine WL.off rfl rfl rfl rfl ?_ -- t25
        refine WL.off rfl rfl rfl rfl ?_ -- t26
        refine WL.off rfl rfl rfl rfl ?_ -- t27
        refine WL.offU rfl rfl rfl ?_ -- t28
        refine WL.offU rfl rfl rfl ?_ -- t29
        refine WL.offU rfl rfl rfl ?_ -- t30
        refine WL.offU rfl rfl rfl ?_ -- t31
        refine WL.offU rfl rfl rfl ?_ -- t32
        refine WL.offU rfl rfl rfl ?_ -- t33
        refine WL.offU rfl rfl rfl ?_ -- t34
        refine WL.offU rfl rfl rfl ?_ -- t35
        refine WL.offU rfl rfl rfl ?_ -- t36
        refine WL.offU rfl rfl rfl ?_ -- t37
        refine WL.offU rfl rfl rfl ?_ -- t38
        refine WL.offU rfl rfl rfl ?_ -- t39
        refine WL.off rfl rfl rfl rfl ?_ -- t40
        refine WL.y (Yl.pickF rfl rfl) rfl ?_ -- t41
        refine WL.y (Yl.assign rfl) rfl ?_ -- t2
        refine WL.nil ?_
        refine WC.ret ?_
        repeat (first | (with_reducible refine peelT ?_) | (with_reducible refine peelB ?_) | (with_reducible refine peelTX ?_) | (with_reducible refine peelBX ?_) | (with_reducible refine peelBN ?_) | (with_reducible refine peelBO rfl ?_))
        refine ret1 (.inr rfl) Try.results32 rfl fun w' h => ⟨(), trivial, ?_, h.sub (by repeat (first | exact TakeL.nil | (apply TakeL.cons; · repeat (first | exact Take1.head | apply Take1.tail))))⟩
        refine ret_bool ?_
        simp only [decide_eq_true_eq, decide_eq_false_iff_not] at *
        simp [mayB, *]
    · refine WL.off rfl rfl rfl rfl ?_ -- t12
      refine WL.off rfl rfl rfl rfl ?_ -- t13
      refine WL.off rfl rfl rfl rfl ?_ -- t14
      refine WL.y (Yl.pickF rfl rfl) rfl ?_ -- t15
      refine WL.y (Yl.move rfl) rfl ?_ -- t16
      refine WL.off rfl rfl rfl rfl ?_ -- t17
      refine WL.off rfl rfl rfl rfl ?_ -- t18
      refine WL.off rfl rfl rfl rfl ?_ -- t19
      refine WL.off rfl rfl rfl rfl ?_ -- t20
      refine WL.off rfl rfl rfl rfl ?_ -- t21
      refine WL.y (Yl.pickF rfl rfl) rfl ?_ -- t22
      refine WL.y (Yl.move rfl) rfl ?_ -- t23
      refine WL.off rfl rfl rfl rfl ?_ -- t24
      refine WL.off rfl rfl rfl rfl ?_ -- t25
      refine WL.off rfl rfl rfl rfl ?_ -- t26
      refine WL.off rfl rfl rfl rfl ?_ -- t27
      refine WL.offU rfl rfl rfl ?_ -- t28
      refine WL.offU rfl rfl rfl ?_ -- t29
      refine WL.offU rfl rfl rfl ?_ -- t30
      refine WL.offU rfl rfl rfl ?_ -- t31
      refine WL.offU rfl rfl rfl ?_ -- t32
      refine WL.offU rfl rfl rfl ?_ -- t33
      refine WL.offU rfl rfl rfl ?_ -- t34
      refine WL.offU rfl rfl rfl ?_ -- t35
      refine WL.offU rfl rfl rfl ?_ -- t36
      refine WL.offU rfl rfl rfl ?_ -- t37
      refine WL.offU rfl rfl rfl ?_ -- t38
      refine WL.offU rfl rfl rfl ?_ -- t39
      refine WL.off rfl rfl rfl rfl ?_ -- t40
      refine WL.y (Yl.pickF rfl rfl) rfl ?_ -- t41
      refine WL.y (Yl.assign rfl) rfl ?_ -- t2
      refine WL.nil ?_
      refine WC.ret ?_
      repeat (first | (with_reducible refine peelT ?_) | (with_reducible refine peelB ?_) | (with_reducible refine peelTX ?_) | (with_reducible refine peelBX ?_) | (with_reducible refine peelBN ?_) | (with_reducible refine peelBO rfl ?_))
      refine ret1 (.inr rfl) Try.results32 rfl fun w' h => ⟨(), trivial, ?_, h.sub (by repeat (first | exact TakeL.nil | (apply TakeL.cons; · repeat (first | exact Take1.head | apply Take1.tail))))⟩
      refine ret_bool ?_
      simp only [decide_eq_true_eq, decide_eq_false_iff_not] at *
      simp [mayB, *]
  · refine WL.off rfl rfl rfl rfl ?_ -- t7
    refine WL.off rfl rfl rfl rfl ?_ -- t8
    refine WL.off rfl rfl rfl rfl ?_ -- t9
    refine WL.y (Yl.pickF rfl rfl) rfl ?_ -- t10
    refine WL.y (Yl.move rfl) rfl ?_ -- t11
    refine WL.off rfl rfl rfl rfl ?_ -- t12
    refine WL.off rfl rfl rfl rfl ?_ -- t13
    refine WL.off rfl rfl rfl rfl ?_ -- t14
    refine WL.y (Yl.pickF rfl rfl) rfl ?_ -- t15
    refine WL.y (Yl.move rfl) rfl ?_ -- t16
    refine WL.off rfl rfl rfl rfl ?_ -- t17
    refine WL.off rfl rfl rfl rfl ?_ -- t18
    refine WL.off rfl rfl rfl rfl ?_ -- t19
    refine WL.off rfl rfl rfl rfl ?_ -- t20
    refine WL.off rfl rfl rfl rfl ?_ -- t21
    refine WL.y (Yl.pickF rfl rfl) rfl ?_ -- t22
    refine WL.y (Yl.move rfl) rfl ?_ -- t23
    refine WL.off rfl rfl rfl rfl ?_ -- t24
    refine WL.off rfl rfl rfl rfl ?_ -- t25
    refine WL.off rfl rfl rfl rfl ?_ -- t26
    refine WL.off rfl rfl rfl rfl ?_ -- t27
    refine WL.offU rfl rfl rfl ?_ -- t28
    refine WL.offU rfl rfl rfl ?_ -- t29
    refine WL.offU rfl rfl rfl ?_ -- t30
    refine WL.offU rfl rfl rfl ?_ -- t31
    refine WL.offU rfl rfl rfl ?_ -- t32
    refine WL.offU rfl rfl rfl ?_ -- t33
    refine WL.offU rfl rfl rfl ?_ -- t34
    refine WL.offU rfl rfl rfl ?_ -- t35
    refine WL.offU rfl rfl rfl ?_ -- t36
    refine WL.offU rfl rfl rfl ?_ -- t37
    refine WL.offU rfl rfl rfl ?_ -- t38
    refine WL.offU rfl rfl rfl ?_ -- t39
    refine WL.off rfl rfl rfl rfl ?_ -- t40
    refine WL.y (Yl.pickF rfl rfl) rfl ?_ -- t41
    refine WL.y (Yl.assign rfl) rfl ?_ -- t2
    refine WL.nil ?_
    refine WC.ret ?_
    repeat (first | (with_reducible refine peelT ?_) | (with_reducible refine peelB ?_) | (with_reducible refine peelTX ?_) | (with_reducible refine peelBX ?_) | (with_reducible refine peelBN ?_) | (with_reducible refine peelBO rfl ?_))
    refine ret1 (.inr rfl) Try.results32 rfl fun w' h => ⟨(), trivial, ?_, h.sub (by repeat (first | exact TakeL.nil | (apply TakeL.cons; · repeat (first | exact Take1.head | apply Take1.tail))))⟩
    refine ret_bool ?_
    simp only [decide_eq_true_eq, decide_eq_false_iff_not] at *
    simp [mayB, *]

theorem rmay_any (r : Rc) (hr : r.ok) (w : World) (hw : OK w (fpL []) [] w) : Fn Try.prog 13 [.agg r.cells.toArray] [] w (fun _ : Unit => True) (fun _ => .bool (mayB r)) (fun _ => []) := by
  have h := hr.len
  refine enterF Try.func13 rfl Try.ntmps13 rfl hw ?_
  refine WC.seq ?_
  refine WC.region ?_
  refine WL.to (To.box (cs := r.cells) rfl rfl) rfl ?_ -- t1
  intro b1
  refine WL.y (Yl.assign rfl) rfl ?_ -- t2
  refine WL.nil ?_
  refine WC.seq ?_
  refine WC.midK [(22, .bool (!gB r))] [blkR b1 31 r.cells] ?_ ?_
  · refine WC.region ?_
    refine WL.y (Yl.field fo31_1 rfl) rfl ?_ -- t3
    refine WL.y (Yl.load on5 rfl (by repeat (first | exact Take1.head | apply Take1.tail)) (Rc.c16 h)) rfl ?_ -- t4
    refine WL.y (Yl.gtr rfl rfl) rfl ?_ -- t5
    refine WL.y (Yl.move rfl) rfl ?_ -- t6
    refine WL.both (t := 6) rfl (fun g6 => ?_) (fun g6 => ?_)
    · refine WL.off rfl rfl rfl rfl ?_ -- t7
      refine WL.off rfl rfl rfl rfl ?_ -- t8
      refine WL.off rfl rfl rfl rfl ?_ -- t9
      refine WL.y (Yl.pickT rfl rfl) rfl ?_ -- t10
      refine WL.y (Yl.move rfl) rfl ?_ -- t11
      refine WL.off rfl rfl rfl rfl ?_ -- t12
      refine WL.off rfl rfl rfl rfl ?_ -- t13
      refine WL.off rfl rfl rfl rfl ?_ -- t14
      refine WL.y (Yl.pickT rfl rfl) rfl ?_ -- t15
      refine WL.y (Yl.move rfl) rfl ?_ -- t16
      refine WL.off rfl rfl rfl rfl ?_ -- t17
      refine WL.off rfl rfl rfl rfl ?_ -- t18
      refine WL.off rfl rfl rfl rfl ?_ -- t19
      refine WL.off rfl rfl rfl rfl ?_ -- t20
      refine WL.off rfl rfl rfl rfl ?_ -- t21
      refine WL.y (Yl.pickT rfl rfl) rfl ?_ -- t22
      refine WL.say (t := 22) (v' := .bool (!gB r)) rfl (by (simp only [decide_eq_true_eq, decide_eq_false_iff_not] at *; refine congrArg Value.bool ?_; unfold gB; rw [Bool.eq_iff_iff]; simp; omega)) ?_
      refine WL.nil ?_
      exact ⟨rfl, (by repeat (first | exact Sub.nil | refine Sub.cons rfl ?_)), (by repeat (first | exact Sub.nil | refine Sub.cons rfl ?_)), _, (by repeat (first | exact TakeL.nil | (apply TakeL.cons; · repeat (first | exact Take1.head | apply Take1.tail))))⟩
    · refine WL.on rfl rfl ?_
      refine WL.y (Yl.field fo31_3 rfl) rfl ?_ -- t7
      refine WL.on rfl rfl ?_
      refine WL.y (Yl.load on5 rfl (by repeat (first | exact Take1.head | apply Take1.tail)) (Rc.c18 h)) rfl ?_ -- t8
      refine WL.on rfl rfl ?_
      refine WL.y (Yl.lss rfl rfl) rfl ?_ -- t9
      refine WL.y (Yl.pickF rfl rfl) rfl ?_ -- t10
      refine WL.y (Yl.move rfl) rfl ?_ -- t11
      refine WL.both (t := 11) rfl (fun g11 => ?_) (fun g11 => ?_)
      · refine WL.off rfl rfl rfl rfl ?_ -- t12
        refine WL.off rfl rfl rfl rfl ?_ -- t13
        refine WL.off rfl rfl rfl rfl ?_ -- t14
        refine WL.y (Yl.pickT rfl rfl) rfl ?_ -- t15
        refine WL.y (Yl.move rfl) rfl ?_ -- t16
        refine WL.off rfl rfl rfl rfl ?_ -- t17
        refine WL.off rfl rfl rfl rfl ?_ -- t18
        refine WL.off rfl rfl rfl rfl ?_ -- t19
        refine WL.off rfl rfl rfl rfl ?_ -- t20
        refine WL.off rfl rfl rfl rfl ?_ -- t21
        refine WL.y (Yl.pickT rfl rfl) rfl ?_ -- t22
        refine WL.say (t := 22) (v' := .bool (!gB r)) rfl (by (simp only [decide_eq_true_eq, decide_eq_false_iff_not] at *; refine congrArg Value.bool ?_; unfold gB; rw [Bool.eq_iff_iff]; simp; omega)) ?_
        refine WL.nil ?_
        exact ⟨rfl, (by repeat (first | exact Sub.nil | refine Sub.cons rfl ?_)), (by repeat (first | exact Sub.nil | refine Sub.cons rfl ?_)), _, (by repeat (first | exact TakeL.nil | (apply TakeL.cons; · repeat (first | exact Take1.head | apply Take1.tail))))⟩
      · refine WL.on rfl rfl ?_
        refine WL.y (Yl.field fo31_3 rfl) rfl ?_ -- t12
        refine WL.on rfl rfl ?_
        refine WL.y (Yl.load on5 rfl (by repeat (first | exact Take1.head | apply Take1.tail)) (Rc.c18 h)) rfl ?_ -- t13
        refine WL.on rfl rfl ?_
        refine WL.y (Yl.gtr rfl rfl) rfl ?_ -- t14
        refine WL.y (Yl.pickF rfl rfl) rfl ?_ -- t15
        refine WL.y (Yl.move rfl) rfl ?_ -- t16
        refine WL.both (t := 16) rfl (fun g16 => ?_) (fun g16 => ?_)
        · refine WL.off rfl rfl rfl rfl ?_ -- t17
          refine WL.off rfl rfl rfl rfl ?_ -- t18
          refine WL.off rfl rfl rfl rfl ?_ -- t19
          refine WL.off rfl rfl rfl rfl ?_ -- t20
          refine WL.off rfl rfl rfl rfl ?_ -- t21
          refine WL.y (Yl.pickT rfl rfl) rfl ?_ -- t22
          refine WL.say (t := 22) (v' := .bool (!gB r)) rfl (by (simp only [decide_eq_true_eq, decide_eq_false_iff_not] at *; refine congrArg Value.bool ?_; unfold gB; rw [Bool.eq_iff_iff]; simp; omega)) ?_
          refine WL.nil ?_
          exact ⟨rfl, (by repeat (first | exact Sub.nil | refine Sub.cons rfl ?_)), (by repeat (first | exact Sub.nil | refine Sub.cons rfl ?_)), _, (by repeat (first | exact TakeL.nil | (apply TakeL.cons; · repeat (first | exact Take1.head | apply Take1.tail))))⟩
        · refine WL.on rfl rfl ?_
          refine WL.y (Yl.field fo31_6 rfl) rfl ?_ -- t17
          refine WL.on rfl rfl ?_
          refine WL.y (Yl.load on29 rfl (by repeat (first | exact Take1.head | apply Take1.tail)) (Rc.c21 h)) rfl ?_ -- t18
          refine WL.on rfl rfl ?_
          refine WL.y (Yl.field fo31_4 rfl) rfl ?_ -- t19
          refine WL.on rfl rfl ?_
          refine WL.y (Yl.load on29 rfl (by repeat (first | exact Take1.head | apply Take1.tail)) (Rc.c19 h)) rfl ?_ -- t20
          refine WL.on rfl rfl ?_
          refine WL.y (Yl.lss rfl rfl) rfl ?_ -- t21
          refine WL.y (Yl.pickF rfl rfl) rfl ?_ -- t22
          refine WL.say (t := 22) (v' := .bool (!gB r)) rfl (by (simp only [decide_eq_true_eq, decide_eq_false_iff_not] at *; refine congrArg Value.bool ?_; unfold gB; rw [Bool.eq_iff_iff]; simp; omega)) ?_
          refine WL.nil ?_
          exact ⟨rfl, (by repeat (first | exact Sub.nil | refine Sub.cons rfl ?_)), (by repeat (first | exact Sub.nil | refine Sub.cons rfl ?_)), _, (by repeat (first | exact TakeL.nil | (apply TakeL.cons; · repeat (first | exact Take1.head | apply Take1.tail))))⟩
  · refine WC.cond rfl (fun g22 => ?_) (fun g22 => ?_)
    · refine WC.seq ?_
      refine WC.region ?_
      refine WL.y (Yl.assign rfl) rfl ?_ -- t2
      refine WL.nil ?_
      refine WC.ret ?_
      repeat (first | (with_reducible refine peelT ?_) | (with_reducible refine peelB ?_) | (with_reducible refine peelTX ?_) | (with_reducible refine peelBX ?_) | (with_reducible refine peelBN ?_) | (with_reducible refine peelBO rfl ?_))
      refine ret1 (.inr rfl) Try.results13 rfl fun w' h => ⟨(), trivial, ?_, h.sub (by repeat (first | exact TakeL.nil | (apply TakeL.cons; · repeat (first | exact Take1.head | apply Take1.tail))))⟩
      refine ret_bool ?_
      rw [mayB_eq, show gB r = false by simpa using g22]; rfl
    · refine WC.skip ?_
      refine WC.seq ?_
      refine WC.region ?_
      refine WL.y (Yl.field fo31_5 rfl) rfl ?_ -- t23
      refine WL.y (Yl.load on29 rfl (by repeat (first | exact Take1.head | apply Take1.tail)) (Rc.c20 h)) rfl ?_ -- t24
      refine WL.y (Yl.eql rfl rfl) rfl ?_ -- t25
      refine WL.y (Yl.move rfl) rfl ?_ -- t26
      refine WL.both (t := 26) rfl (fun g26 => ?_) (fun g26 => ?_)
      · refine WL.off rfl rfl rfl rfl ?_ -- t27
        refine WL.off rfl rfl rfl rfl ?_ -- t28
        refine WL.off rfl rfl rfl rfl ?_ -- t29
        refine WL.off rfl rfl rfl rfl ?_ -- t30
        refine WL.off rfl rfl rfl rfl ?_ -- t31
        refine WL.off rfl rfl rfl rfl ?_ -- t32
        refine WL.offU rfl rfl rfl ?_ -- t33
        refine WL.offU rfl rfl rfl ?_ -- t34
        refine WL.offU rfl rfl rfl ?_ -- t35
        refine WL.offU rfl rfl rfl ?_ -- t36
        refine WL.offU rfl rfl rfl ?_ -- t37
        refine WL.off rfl rfl rfl rfl ?_ -- t38
        refine WL.y (Yl.pickT rfl rfl) rfl ?_ -- t39
        refine WL.y (Yl.assign rfl) rfl ?_ -- t2
        refine WL.nil ?_
        refine WC.ret ?_
        repeat (first | (with_reducible refine peelT ?_) | (with_reducible refine peelB ?_) | (with_reducible refine peelTX ?_) | (with_reducible refine peelBX ?_) | (with_reducible refine peelBN ?_) | (with_reducible refine peelBO rfl ?_))
        refine ret1 (.inr rfl) Try.results13 rfl fun w' h => ⟨(), trivial, ?_, h.sub (by repeat (first | exact TakeL.nil | (apply TakeL.cons; · repeat (first | exact Take1.head | apply Take1.tail))))⟩
        refine ret_bool ?_
        simp only [decide_eq_true_eq, decide_eq_false_iff_not] at *
        rw [mayB_eq, show gB r = true by simpa using g22]
        simp [*]
      · refine WL.on rfl rfl ?_
        refine WL.y (Yl.field fo31_4 rfl) rfl ?_ -- t27
        refine WL.on rfl rfl ?_
        refine WL.y (Yl.load on29 rfl (by repeat (first | exact Take1.head | apply Take1.tail)) (Rc.c19 h)) rfl ?_ -- t28
        refine WL.on rfl rfl ?_
        refine WL.y (Yl.field fo31_5 rfl) rfl ?_ -- t29
        refine WL.on rfl rfl ?_
        refine WL.y (Yl.load on29 rfl (by repeat (first | exact Take1.head | apply Take1.tail)) (Rc.c20 h)) rfl ?_ -- t30
        refine WL.on rfl rfl ?_
        refine WL.y (Yl.leq rfl rfl) rfl ?_ -- t31
        refine WL.on rfl rfl ?_
        refine WL.y (Yl.move rfl) rfl ?_ -- t32
        refine WL.both (t := 32) rfl (fun g32 => ?_) (fun g32 => ?_)
        · refine WL.on rfl rfl ?_
          refine WL.y (Yl.field fo31_5 rfl) rfl ?_ -- t33
          refine WL.on rfl rfl ?_
          refine WL.y (Yl.load on29 rfl (by repeat (first | exact Take1.head | apply Take1.tail)) (Rc.c20 h)) rfl ?_ -- t34
          refine WL.on rfl rfl ?_
          refine WL.y (Yl.field fo31_6 rfl) rfl ?_ -- t35
          refine WL.on rfl rfl ?_
          refine WL.y (Yl.load on29 rfl (by repeat (first | exact Take1.head | apply Take1.tail)) (Rc.c21 h)) rfl ?_ -- t36
          refine WL.on rfl rfl ?_
          refine WL.y (Yl.leq rfl rfl) rfl ?_ -- t37
          refine WL.on rfl rfl ?_
          refine WL.y (Yl.pickT rfl rfl) rfl ?_ -- t38
          refine WL.y (Yl.pickF rfl rfl) rfl ?_ -- t39
          refine WL.y (Yl.assign rfl) rfl ?_ -- t2
          refine WL.nil ?_
          refine WC.ret ?_
          repeat (first | (with_reducible refine peelT ?_) | (with_reducible refine peelB ?_) | (with_reducible refine peelTX ?_) | (with_reducible refine peelBX ?_) | (with_reducible refine peelBN ?_) | (with_reducible refine peelBO rfl ?_))
          refine ret1 (.inr rfl) Try.results13 rfl fun w' h => ⟨(), trivial, ?_, h.sub (by repeat (first | exact TakeL.nil | (apply TakeL.cons; · repeat (first | exact Take1.head | apply Take1.tail))))⟩
          refine ret_bool ?_
          simp only [decide_eq_true_eq, decide_eq_false_iff_not] at *
          rw [mayB_eq, show gB r = true by simpa using g22]
          simp [*]
        · refine WL.off rfl rfl rfl rfl ?_ -- t33
          refine WL.off rfl rfl rfl rfl ?_ -- t34
          refine WL.off rfl rfl rfl rfl ?_ -- t35
          refine WL.off rfl rfl rfl rfl ?_ -- t36
          refine WL.off rfl rfl rfl rfl ?_ -- t37
          refine WL.on rfl rfl ?_
          refine WL.y (Yl.pickF rfl rfl) rfl ?_ -- t38
          refine WL.y (Yl.pickF rfl rfl) rfl ?_ -- t39
          refine WL.y (Yl.assign rfl) rfl ?_ -- t2
          refine WL.nil ?_
          refine WC.ret ?_
          repeat (first | (with_reducible refine peelT ?_) | (with_reducible refine peelB ?_) | (with_reducible refine peelTX ?_) | (with_reducible refine peelBX ?_) | (with_reducible refine peelBN ?_) | (with_reducible refine peelBO rfl ?_))
          refine ret1 (.inr rfl) Try.results13 rfl fun w' h => ⟨(), trivial, ?_, h.sub (by repeat (first | exact TakeL.nil | (apply TakeL.cons; · repeat (first | exact Take1.head | apply Take1.tail))))⟩
          refine ret_bool ?_
          simp only [decide_eq_true_eq, decide_eq_false_iff_not] at *
          rw [mayB_eq, show gB r = true by simpa using g22]
          simp [*]

end Go.Proofs.Ytmcdbjbkkejbbaa
