/- Signals: may one be, are two one. -/
import Derived.Test.YtnmeoleahcnnkaaSignP
namespace Go.Proofs.Ytnmeoleahcnnkaa
open Go Go.RowKit
theorem flDev : Flat Try.prog 29 (List.replicate 2 (some .u8)) := Flat.mk' 10000 (Nat.le_refl _) (by kernel_rfl) (by kernel_rfl)
theorem flKey : Flat Try.prog 31 (List.replicate 32 (some .u8)) := Flat.mk' 10000 (Nat.le_refl _) (by kernel_rfl) (by kernel_rfl)
theorem flSid : Flat Try.prog 27 (List.replicate 16 (some .u8)) := Flat.mk' 10000 (Nat.le_refl _) (by kernel_rfl) (by kernel_rfl)

theorem smay_any (s : Sg) (hs : s.ok) (w : World) (hw : OK w (fpL []) [] w) : Fn Try.prog 11 [.agg s.cells.toArray] [] w (fun _ : Unit => True) (fun _ => .bool (mayS s)) (fun _ => []) := by
  refine enterF Try.func11 rfl Try.ntmps11 rfl hw ?_
  refine WC.seq ?_
  refine WC.region ?_
  refine WL.to (To.box (cs := s.cells) rfl rfl) rfl ?_ -- t1
  intro b1
  refine WL.y (Yl.assign rfl) rfl ?_ -- t2
  refine WL.nil ?_
  refine WC.midK [(3, .bool (decide (s.kind = 1))), (4, .bool (decide (s.kind = 1) || decide (s.kind = 2)))] [blkR b1 34 s.cells] ?_ ?_
  · refine WC.drawRead mixed (by kernel_rfl) ?_
    refine WH.y (Yl.field fo34_0 rfl) rfl ?_ -- t5
    refine WH.y (Yl.load on5 rfl (by repeat (first | exact Take1.head | apply Take1.tail)) Sg.c0) rfl ?_ -- t6
    refine WH.y (Yl.eql rfl rfl) rfl ?_ -- t7
    refine WH.y (Yl.field fo34_0 rfl) rfl ?_ -- t8
    refine WH.y (Yl.load on5 rfl (by repeat (first | exact Take1.head | apply Take1.tail)) Sg.c0) rfl ?_ -- t9
    refine WH.y (Yl.eql rfl rfl) rfl ?_ -- t10
    refine WH.y (Yl.move rfl) rfl ?_ -- t11
    refine WH.both (t := 11) rfl (fun g11 => ?_) (fun g11 => ?_)
    · refine WH.off rfl rfl rfl rfl ?_ -- t12
      refine WH.off rfl rfl rfl rfl ?_ -- t13
      refine WH.off rfl rfl rfl rfl ?_ -- t14
      refine WH.y (Yl.pickT rfl rfl) rfl ?_ -- t15
      refine WH.y (Yl.assign rfl) rfl ?_ -- t3
      refine WH.y (Yl.assign rfl) rfl ?_ -- t4
      refine WH.say (t := 4) (v' := .bool (decide (s.kind = 1) || decide (s.kind = 2))) rfl (by (refine congrArg Value.bool ?_; simp [*])) ?_
      refine WH.nil ?_
      exact ⟨rfl, (by repeat (first | exact Sub.nil | refine Sub.cons rfl ?_)), (by repeat (first | exact Sub.nil | refine Sub.cons rfl ?_)), _, (by repeat (first | exact TakeL.nil | (apply TakeL.cons; · repeat (first | exact Take1.head | apply Take1.tail))))⟩
    · refine WH.on rfl rfl ?_
      refine WH.y (Yl.field fo34_0 rfl) rfl ?_ -- t12
      refine WH.on rfl rfl ?_
      refine WH.y (Yl.load on5 rfl (by repeat (first | exact Take1.head | apply Take1.tail)) Sg.c0) rfl ?_ -- t13
      refine WH.on rfl rfl ?_
      refine WH.y (Yl.eql rfl rfl) rfl ?_ -- t14
      refine WH.y (Yl.pickF rfl rfl) rfl ?_ -- t15
      refine WH.y (Yl.assign rfl) rfl ?_ -- t3
      refine WH.y (Yl.assign rfl) rfl ?_ -- t4
      refine WH.say (t := 4) (v' := .bool (decide (s.kind = 1) || decide (s.kind = 2))) rfl (by (refine congrArg Value.bool ?_; simp [*])) ?_
      refine WH.nil ?_
      exact ⟨rfl, (by repeat (first | exact Sub.nil | refine Sub.cons rfl ?_)), (by repeat (first | exact Sub.nil | refine Sub.cons rfl ?_)), _, (by repeat (first | exact TakeL.nil | (apply TakeL.cons; · repeat (first | exact Take1.head | apply Take1.tail))))⟩
  · refine WC.seq ?_
    refine WC.block ?_
    refine WC.midK [(16, .bool (bad2 s))] [blkR b1 34 s.cells] ?_ ?_
    · refine WC.region ?_
      refine WL.y (Yl.field fo34_0 rfl) rfl ?_ -- t17
      refine WL.y (Yl.load on5 rfl (by repeat (first | exact Take1.head | apply Take1.tail)) Sg.c0) rfl ?_ -- t18
      refine WL.y (Yl.lss rfl rfl) rfl ?_ -- t19
      refine WL.y (Yl.move rfl) rfl ?_ -- t20
      refine WL.both (t := 20) rfl (fun g20 => ?_) (fun g20 => ?_)
      · refine WL.off rfl rfl rfl rfl ?_ -- t21
        refine WL.off rfl rfl rfl rfl ?_ -- t22
        refine WL.off rfl rfl rfl rfl ?_ -- t23
        refine WL.y (Yl.pickT rfl rfl) rfl ?_ -- t24
        refine WL.y (Yl.assign rfl) rfl ?_ -- t16
        refine WL.say (t := 16) (v' := .bool (bad2 s)) rfl (by (refine congrArg Value.bool ?_; unfold bad2; simp [*])) ?_
        refine WL.nil ?_
        exact ⟨rfl, (by repeat (first | exact Sub.nil | refine Sub.cons rfl ?_)), (by repeat (first | exact Sub.nil | refine Sub.cons rfl ?_)), _, (by repeat (first | exact TakeL.nil | (apply TakeL.cons; · repeat (first | exact Take1.head | apply Take1.tail))))⟩
      · refine WL.on rfl rfl ?_
        refine WL.y (Yl.field fo34_0 rfl) rfl ?_ -- t21
        refine WL.on rfl rfl ?_
        refine WL.y (Yl.load on5 rfl (by repeat (first | exact Take1.head | apply Take1.tail)) Sg.c0) rfl ?_ -- t22
        refine WL.on rfl rfl ?_
        refine WL.y (Yl.gtr rfl rfl) rfl ?_ -- t23
        refine WL.y (Yl.pickF rfl rfl) rfl ?_ -- t24
        refine WL.y (Yl.assign rfl) rfl ?_ -- t16
        refine WL.say (t := 16) (v' := .bool (bad2 s)) rfl (by (refine congrArg Value.bool ?_; unfold bad2; simp [*])) ?_
        refine WL.nil ?_
        exact ⟨rfl, (by repeat (first | exact Sub.nil | refine Sub.cons rfl ?_)), (by repeat (first | exact Sub.nil | refine Sub.cons rfl ?_)), _, (by repeat (first | exact TakeL.nil | (apply TakeL.cons; · repeat (first | exact Take1.head | apply Take1.tail))))⟩
    · refine WC.cond rfl (fun g16 => ?_) (fun g16 => ?_)
      · refine WC.seq ?_
        refine WC.region ?_
        refine WL.y (Yl.assign rfl) rfl ?_ -- t2
        refine WL.nil ?_
        refine WC.ret ?_
        repeat (first | (with_reducible refine peelT ?_) | (with_reducible refine peelB ?_) | (with_reducible refine peelTX ?_) | (with_reducible refine peelBX ?_) | (with_reducible refine peelBN ?_) | (with_reducible refine peelBO rfl ?_))
        refine ret1 (.inr rfl) Try.results11 rfl fun w' h => ⟨(), trivial, ret_bool (by simp [mayS, *]), h.sub (by repeat (first | exact TakeL.nil | (apply TakeL.cons; · repeat (first | exact Take1.head | apply Take1.tail))))⟩
      · refine WC.midK [(25, .bool (bad4 s))] [blkR b1 34 s.cells] ?_ ?_
        · refine WC.region ?_
          refine WL.y (Yl.move rfl) rfl ?_ -- t26
          refine WL.y (Yl.not rfl) rfl ?_ -- t27
          refine WL.y (Yl.move rfl) rfl ?_ -- t28
          refine WL.both (t := 28) rfl (fun g28 => ?_) (fun g28 => ?_)
          · refine WL.on rfl rfl ?_
            refine WL.y (Yl.field fo34_2 rfl) rfl ?_ -- t29
            refine WL.on rfl rfl ?_
            refine WL.y (Yl.loadN ag29 rfl (by repeat (first | exact Take1.head | apply Take1.tail)) (fitLe (by rw [Sg.len hs]; omega)) (Sg.ccal hs)) rfl ?_ -- t30
            refine WL.on rfl rfl ?_
            refine WL.y (Yl.build rfl (cs := [.int .u8 0, .int .u8 0]) (fun _ => by kernel_rfl)) rfl ?_ -- t31
            refine WL.on rfl rfl ?_
            refine WL.y (Yl.neA flDev rfl rfl (fitsDev hs.ca hs.cd) (fitsDev (by omega) (by omega))) rfl ?_
            rw [eqV_dev]
            refine WL.on rfl rfl ?_
            refine WL.y (Yl.move rfl) rfl ?_ -- t33
            refine WL.both (t := 33) rfl (fun g33 => ?_) (fun g33 => ?_)
            · refine WL.off rfl rfl rfl rfl ?_ -- t34
              refine WL.off rfl rfl rfl rfl ?_ -- t35
              refine WL.off rfl rfl rfl rfl ?_ -- t36
              refine WL.on rfl rfl ?_
              refine WL.y (Yl.pickT rfl rfl) rfl ?_ -- t37
              refine WL.y (Yl.pickT rfl rfl) rfl ?_ -- t38
              refine WL.y (Yl.move rfl) rfl ?_ -- t39
              refine WL.off rfl rfl rfl rfl ?_ -- t40
              refine WL.off rfl rfl rfl rfl ?_ -- t41
              refine WL.off rfl rfl rfl rfl ?_ -- t42
              refine WL.offU rfl rfl rfl ?_ -- t43
              refine WL.offU rfl rfl rfl ?_ -- t44
              refine WL.offU rfl rfl rfl ?_ -- t45
              refine WL.offU rfl rfl rfl ?_ -- t46
              refine WL.off rfl rfl rfl rfl ?_ -- t47
              refine WL.y (Yl.pickT rfl rfl) rfl ?_ -- t48
              refine WL.y (Yl.assign rfl) rfl ?_ -- t25
              refine WL.say (t := 25) (v' := .bool (bad4 s)) rfl (by (refine congrArg Value.bool ?_; unfold bad4; simp_all)) ?_
              refine WL.nil ?_
              exact ⟨rfl, (by repeat (first | exact Sub.nil | refine Sub.cons rfl ?_)), (by repeat (first | exact Sub.nil | refine Sub.cons rfl ?_)), _, (by repeat (first | exact TakeL.nil | (apply TakeL.cons; · repeat (first | exact Take1.head | apply Take1.tail))))⟩
            · refine WL.on rfl rfl ?_
              refine WL.y (Yl.field fo34_3 rfl) rfl ?_ -- t34
              refine WL.on rfl rfl ?_
              refine WL.y (Yl.load on5 rfl (by repeat (first | exact Take1.head | apply Take1.tail)) (Sg.c19 hs)) rfl ?_ -- t35
              refine WL.on rfl rfl ?_
              refine WL.y (Yl.neq rfl rfl) rfl ?_ -- t36
              refine WL.on rfl rfl ?_
              refine WL.y (Yl.pickF rfl rfl) rfl ?_ -- t37
              refine WL.y (Yl.pickT rfl rfl) rfl ?_ -- t38
              refine WL.y (Yl.move rfl) rfl ?_ -- t39
              refine WL.both (t := 39) rfl (fun g39 => ?_) (fun g39 => ?_)
              · refine WL.off rfl rfl rfl rfl ?_ -- t40
                refine WL.off rfl rfl rfl rfl ?_ -- t41
                refine WL.off rfl rfl rfl rfl ?_ -- t42
                refine WL.offU rfl rfl rfl ?_ -- t43
                refine WL.offU rfl rfl rfl ?_ -- t44
                refine WL.offU rfl rfl rfl ?_ -- t45
                refine WL.offU rfl rfl rfl ?_ -- t46
                refine WL.off rfl rfl rfl rfl ?_ -- t47
                refine WL.y (Yl.pickT rfl rfl) rfl ?_ -- t48
                refine WL.y (Yl.assign rfl) rfl ?_ -- t25
                refine WL.say (t := 25) (v' := .bool (bad4 s)) rfl (by (refine congrArg Value.bool ?_; unfold bad4; simp_all)) ?_
                refine WL.nil ?_
                exact ⟨rfl, (by repeat (first | exact Sub.nil | refine Sub.cons rfl ?_)), (by repeat (first | exact Sub.nil | refine Sub.cons rfl ?_)), _, (by repeat (first | exact TakeL.nil | (apply TakeL.cons; · repeat (first | exact Take1.head | apply Take1.tail))))⟩
              · refine WL.on rfl rfl ?_
                refine WL.y (Yl.move rfl) rfl ?_ -- t40
                refine WL.on rfl rfl ?_
                refine WL.y (Yl.not rfl) rfl ?_ -- t41
                refine WL.on rfl rfl ?_
                refine WL.y (Yl.move rfl) rfl ?_ -- t42
                refine WL.both (t := 42) rfl (fun g42 => ?_) (fun g42 => ?_)
                · refine WL.on rfl rfl ?_
                  refine WL.y (Yl.field fo34_4 rfl) rfl ?_ -- t43
                  refine WL.on rfl rfl ?_
                  refine WL.y (Yl.loadN ag31 rfl (by repeat (first | exact Take1.head | apply Take1.tail)) (fitLe (by rw [Sg.len hs]; omega)) (Sg.ckey hs)) rfl ?_ -- t44
                  refine WL.on rfl rfl ?_
                  refine WL.y (Yl.build rfl (cs := ints .u8 zero32) (fun _ => by kernel_rfl)) rfl ?_ -- t45
                  refine WL.on rfl rfl ?_
                  refine WL.y (Yl.neA flKey rfl rfl (fitsB hs.kl hs.kb) (fitsB zero32_ok.1 zero32_ok.2)) rfl ?_
                  rw [eqV_ints]
                  refine WL.on rfl rfl ?_
                  refine WL.y (Yl.pickT rfl rfl) rfl ?_ -- t47
                  refine WL.y (Yl.pickF rfl rfl) rfl ?_ -- t48
                  refine WL.y (Yl.assign rfl) rfl ?_ -- t25
                  refine WL.say (t := 25) (v' := .bool (bad4 s)) rfl (by (refine congrArg Value.bool ?_; unfold bad4; simp_all)) ?_
                  refine WL.nil ?_
                  exact ⟨rfl, (by repeat (first | exact Sub.nil | refine Sub.cons rfl ?_)), (by repeat (first | exact Sub.nil | refine Sub.cons rfl ?_)), _, (by repeat (first | exact TakeL.nil | (apply TakeL.cons; · repeat (first | exact Take1.head | apply Take1.tail))))⟩
                · refine WL.off rfl rfl rfl rfl ?_ -- t43
                  refine WL.off rfl rfl rfl rfl ?_ -- t44
                  refine WL.off rfl rfl rfl rfl ?_ -- t45
                  refine WL.off rfl rfl rfl rfl ?_ -- t46
                  refine WL.on rfl rfl ?_
                  refine WL.y (Yl.pickF rfl rfl) rfl ?_ -- t47
                  refine WL.y (Yl.pickF rfl rfl) rfl ?_ -- t48
                  refine WL.y (Yl.assign rfl) rfl ?_ -- t25
                  refine WL.say (t := 25) (v' := .bool (bad4 s)) rfl (by (refine congrArg Value.bool ?_; unfold bad4; simp_all)) ?_
                  refine WL.nil ?_
                  exact ⟨rfl, (by repeat (first | exact Sub.nil | refine Sub.cons rfl ?_)), (by repeat (first | exact Sub.nil | refine Sub.cons rfl ?_)), _, (by repeat (first | exact TakeL.nil | (apply TakeL.cons; · repeat (first | exact Take1.head | apply Take1.tail))))⟩
          · refine WL.off rfl rfl rfl rfl ?_ -- t29
            refine WL.off rfl rfl rfl rfl ?_ -- t30
            refine WL.off rfl rfl rfl rfl ?_ -- t31
            refine WL.off rfl rfl rfl rfl ?_ -- t32
            refine WL.off rfl rfl rfl rfl ?_ -- t33
            refine WL.offU rfl rfl rfl ?_ -- t34
            refine WL.offU rfl rfl rfl ?_ -- t35
            refine WL.offU rfl rfl rfl ?_ -- t36
            refine WL.off rfl rfl rfl rfl ?_ -- t37
            refine WL.y (Yl.pickF rfl rfl) rfl ?_ -- t38
            refine WL.y (Yl.move rfl) rfl ?_ -- t39
            refine WL.on rfl rfl ?_
            refine WL.y (Yl.move rfl) rfl ?_ -- t40
            refine WL.on rfl rfl ?_
            refine WL.y (Yl.not rfl) rfl ?_ -- t41
            refine WL.on rfl rfl ?_
            refine WL.y (Yl.move rfl) rfl ?_ -- t42
            refine WL.both (t := 42) rfl (fun g42 => ?_) (fun g42 => ?_)
            · refine WL.on rfl rfl ?_
              refine WL.y (Yl.field fo34_4 rfl) rfl ?_ -- t43
              refine WL.on rfl rfl ?_
              refine WL.y (Yl.loadN ag31 rfl (by repeat (first | exact Take1.head | apply Take1.tail)) (fitLe (by rw [Sg.len hs]; omega)) (Sg.ckey hs)) rfl ?_ -- t44
              refine WL.on rfl rfl ?_
              refine WL.y (Yl.build rfl (cs := ints .u8 zero32) (fun _ => by kernel_rfl)) rfl ?_ -- t45
              refine WL.on rfl rfl ?_
              refine WL.y (Yl.neA flKey rfl rfl (fitsB hs.kl hs.kb) (fitsB zero32_ok.1 zero32_ok.2)) rfl ?_
              rw [eqV_ints]
              refine WL.on rfl rfl ?_
              refine WL.y (Yl.pickT rfl rfl) rfl ?_ -- t47
              refine WL.y (Yl.pickF rfl rfl) rfl ?_ -- t48
              refine WL.y (Yl.assign rfl) rfl ?_ -- t25
              refine WL.say (t := 25) (v' := .bool (bad4 s)) rfl (by (refine congrArg Value.bool ?_; unfold bad4; simp_all)) ?_
              refine WL.nil ?_
              exact ⟨rfl, (by repeat (first | exact Sub.nil | refine Sub.cons rfl ?_)), (by repeat (first | exact Sub.nil | refine Sub.cons rfl ?_)), _, (by repeat (first | exact TakeL.nil | (apply TakeL.cons; · repeat (first | exact Take1.head | apply Take1.tail))))⟩
            · refine WL.off rfl rfl rfl rfl ?_ -- t43
              refine WL.off rfl rfl rfl rfl ?_ -- t44
              refine WL.off rfl rfl rfl rfl ?_ -- t45
              refine WL.off rfl rfl rfl rfl ?_ -- t46
              refine WL.on rfl rfl ?_
              refine WL.y (Yl.pickF rfl rfl) rfl ?_ -- t47
              refine WL.y (Yl.pickF rfl rfl) rfl ?_ -- t48
              refine WL.y (Yl.assign rfl) rfl ?_ -- t25
              refine WL.say (t := 25) (v' := .bool (bad4 s)) rfl (by (refine congrArg Value.bool ?_; unfold bad4; simp_all)) ?_
              refine WL.nil ?_
              exact ⟨rfl, (by repeat (first | exact Sub.nil | refine Sub.cons rfl ?_)), (by repeat (first | exact Sub.nil | refine Sub.cons rfl ?_)), _, (by repeat (first | exact TakeL.nil | (apply TakeL.cons; · repeat (first | exact Take1.head | apply Take1.tail))))⟩
        · refine WC.cond rfl (fun g25 => ?_) (fun g25 => ?_)
          · refine WC.seq ?_
            refine WC.region ?_
            refine WL.y (Yl.assign rfl) rfl ?_ -- t2
            refine WL.nil ?_
            refine WC.ret ?_
            repeat (first | (with_reducible refine peelT ?_) | (with_reducible refine peelB ?_) | (with_reducible refine peelTX ?_) | (with_reducible refine peelBX ?_) | (with_reducible refine peelBN ?_) | (with_reducible refine peelBO rfl ?_))
            refine ret1 (.inr rfl) Try.results11 rfl fun w' h => ⟨(), trivial, ret_bool (by simp [mayS, *]), h.sub (by repeat (first | exact TakeL.nil | (apply TakeL.cons; · repeat (first | exact Take1.head | apply Take1.tail))))⟩
          · refine WC.midK [(49, .bool (bad6 s))] [blkR b1 34 s.cells] ?_ ?_
            · refine WC.region ?_
              refine WL.y (Yl.field fo34_0 rfl) rfl ?_ -- t50
              refine WL.y (Yl.load on5 rfl (by repeat (first | exact Take1.head | apply Take1.tail)) Sg.c0) rfl ?_ -- t51
              refine WL.y (Yl.neq rfl rfl) rfl ?_ -- t52
              refine WL.y (Yl.move rfl) rfl ?_ -- t53
              refine WL.both (t := 53) rfl (fun g53 => ?_) (fun g53 => ?_)
              · refine WL.on rfl rfl ?_
                refine WL.y (Yl.field fo34_5 rfl) rfl ?_ -- t54
                refine WL.on rfl rfl ?_
                refine WL.y (Yl.load on32 rfl (by repeat (first | exact Take1.head | apply Take1.tail)) (Sg.c52 hs)) rfl ?_ -- t55
                refine WL.on rfl rfl ?_
                refine WL.y (Yl.neq rfl rfl) rfl ?_ -- t56
                refine WL.on rfl rfl ?_
                refine WL.y (Yl.move rfl) rfl ?_ -- t57
                refine WL.both (t := 57) rfl (fun g57 => ?_) (fun g57 => ?_)
                · refine WL.off rfl rfl rfl rfl ?_ -- t58
                  refine WL.off rfl rfl rfl rfl ?_ -- t59
                  refine WL.off rfl rfl rfl rfl ?_ -- t60
                  refine WL.off rfl rfl rfl rfl ?_ -- t61
                  refine WL.on rfl rfl ?_
                  refine WL.y (Yl.pickT rfl rfl) rfl ?_ -- t62
                  refine WL.y (Yl.pickT rfl rfl) rfl ?_ -- t63
                  refine WL.y (Yl.move rfl) rfl ?_ -- t64
                  refine WL.off rfl rfl rfl rfl ?_ -- t65
                  refine WL.off rfl rfl rfl rfl ?_ -- t66
                  refine WL.off rfl rfl rfl rfl ?_ -- t67
                  refine WL.off rfl rfl rfl rfl ?_ -- t68
                  refine WL.offU rfl rfl rfl ?_ -- t69
                  refine WL.offU rfl rfl rfl ?_ -- t70
                  refine WL.offU rfl rfl rfl ?_ -- t71
                  refine WL.off rfl rfl rfl rfl ?_ -- t72
                  refine WL.y (Yl.pickT rfl rfl) rfl ?_ -- t73
                  refine WL.y (Yl.assign rfl) rfl ?_ -- t49
                  refine WL.say (t := 49) (v' := .bool (bad6 s)) rfl (by (refine congrArg Value.bool ?_; unfold bad6; simp_all)) ?_
                  refine WL.nil ?_
                  exact ⟨rfl, (by repeat (first | exact Sub.nil | refine Sub.cons rfl ?_)), (by repeat (first | exact Sub.nil | refine Sub.cons rfl ?_)), _, (by repeat (first | exact TakeL.nil | (apply TakeL.cons; · repeat (first | exact Take1.head | apply Take1.tail))))⟩
                · refine WL.on rfl rfl ?_
                  refine WL.y (Yl.field fo34_6 rfl) rfl ?_ -- t58
                  refine WL.on rfl rfl ?_
                  refine WL.y (Yl.load on22 rfl (by repeat (first | exact Take1.head | apply Take1.tail)) (Sg.c53 hs)) rfl ?_ -- t59
                  refine WL.on rfl rfl ?_
                  refine WL.y (Yl.len un22 rfl) rfl ?_ -- t60
                  refine WL.on rfl rfl ?_
                  refine WL.y (Yl.gtr rfl rfl) rfl ?_ -- t61
                  refine WL.on rfl rfl ?_
                  refine WL.y (Yl.pickF rfl rfl) rfl ?_ -- t62
                  refine WL.y (Yl.pickT rfl rfl) rfl ?_ -- t63
                  refine WL.y (Yl.move rfl) rfl ?_ -- t64
                  refine WL.both (t := 64) rfl (fun g64 => ?_) (fun g64 => ?_)
                  · refine WL.off rfl rfl rfl rfl ?_ -- t65
                    refine WL.off rfl rfl rfl rfl ?_ -- t66
                    refine WL.off rfl rfl rfl rfl ?_ -- t67
                    refine WL.off rfl rfl rfl rfl ?_ -- t68
                    refine WL.offU rfl rfl rfl ?_ -- t69
                    refine WL.offU rfl rfl rfl ?_ -- t70
                    refine WL.offU rfl rfl rfl ?_ -- t71
                    refine WL.off rfl rfl rfl rfl ?_ -- t72
                    refine WL.y (Yl.pickT rfl rfl) rfl ?_ -- t73
                    refine WL.y (Yl.assign rfl) rfl ?_ -- t49
                    refine WL.say (t := 49) (v' := .bool (bad6 s)) rfl (by (refine congrArg Value.bool ?_; unfold bad6; simp_all)) ?_
                    refine WL.nil ?_
                    exact ⟨rfl, (by repeat (first | exact Sub.nil | refine Sub.cons rfl ?_)), (by repeat (first | exact Sub.nil | refine Sub.cons rfl ?_)), _, (by repeat (first | exact TakeL.nil | (apply TakeL.cons; · repeat (first | exact Take1.head | apply Take1.tail))))⟩
                  · refine WL.on rfl rfl ?_
                    refine WL.y (Yl.field fo34_0 rfl) rfl ?_ -- t65
                    refine WL.on rfl rfl ?_
                    refine WL.y (Yl.load on5 rfl (by repeat (first | exact Take1.head | apply Take1.tail)) Sg.c0) rfl ?_ -- t66
                    refine WL.on rfl rfl ?_
                    refine WL.y (Yl.neq rfl rfl) rfl ?_ -- t67
                    refine WL.on rfl rfl ?_
                    refine WL.y (Yl.move rfl) rfl ?_ -- t68
                    refine WL.both (t := 68) rfl (fun g68 => ?_) (fun g68 => ?_)
                    · refine WL.on rfl rfl ?_
                      refine WL.y (Yl.field fo34_7 rfl) rfl ?_ -- t69
                      refine WL.on rfl rfl ?_
                      refine WL.y (Yl.load on5 rfl (by repeat (first | exact Take1.head | apply Take1.tail)) (Sg.c54 hs)) rfl ?_ -- t70
                      refine WL.on rfl rfl ?_
                      refine WL.y (Yl.neq rfl rfl) rfl ?_ -- t71
                      refine WL.on rfl rfl ?_
                      refine WL.y (Yl.pickT rfl rfl) rfl ?_ -- t72
                      refine WL.y (Yl.pickF rfl rfl) rfl ?_ -- t73
                      refine WL.y (Yl.assign rfl) rfl ?_ -- t49
                      refine WL.say (t := 49) (v' := .bool (bad6 s)) rfl (by (refine congrArg Value.bool ?_; unfold bad6; simp_all)) ?_
                      refine WL.nil ?_
                      exact ⟨rfl, (by repeat (first | exact Sub.nil | refine Sub.cons rfl ?_)), (by repeat (first | exact Sub.nil | refine Sub.cons rfl ?_)), _, (by repeat (first | exact TakeL.nil | (apply TakeL.cons; · repeat (first | exact Take1.head | apply Take1.tail))))⟩
                    · refine WL.off rfl rfl rfl rfl ?_ -- t69
                      refine WL.off rfl rfl rfl rfl ?_ -- t70
                      refine WL.off rfl rfl rfl rfl ?_ -- t71
                      refine WL.on rfl rfl ?_
                      refine WL.y (Yl.pickF rfl rfl) rfl ?_ -- t72
                      refine WL.y (Yl.pickF rfl rfl) rfl ?_ -- t73
                      refine WL.y (Yl.assign rfl) rfl ?_ -- t49
                      refine WL.say (t := 49) (v' := .bool (bad6 s)) rfl (by (refine congrArg Value.bool ?_; unfold bad6; simp_all)) ?_
                      refine WL.nil ?_
                      exact ⟨rfl, (by repeat (first | exact Sub.nil | refine Sub.cons rfl ?_)), (by repeat (first | exact Sub.nil | refine Sub.cons rfl ?_)), _, (by repeat (first | exact TakeL.nil | (apply TakeL.cons; · repeat (first | exact Take1.head | apply Take1.tail))))⟩
              · refine WL.off rfl rfl rfl rfl ?_ -- t54
                refine WL.off rfl rfl rfl rfl ?_ -- t55
                refine WL.off rfl rfl rfl rfl ?_ -- t56
                refine WL.off rfl rfl rfl rfl ?_ -- t57
                refine WL.offU rfl rfl rfl ?_ -- t58
                refine WL.offU rfl rfl rfl ?_ -- t59
                refine WL.offU rfl rfl rfl ?_ -- t60
                refine WL.offU rfl rfl rfl ?_ -- t61
                refine WL.off rfl rfl rfl rfl ?_ -- t62
                refine WL.y (Yl.pickF rfl rfl) rfl ?_ -- t63
                refine WL.y (Yl.move rfl) rfl ?_ -- t64
                refine WL.on rfl rfl ?_
                refine WL.y (Yl.field fo34_0 rfl) rfl ?_ -- t65
                refine WL.on rfl rfl ?_
                refine WL.y (Yl.load on5 rfl (by repeat (first | exact Take1.head | apply Take1.tail)) Sg.c0) rfl ?_ -- t66
                refine WL.on rfl rfl ?_
                refine WL.y (Yl.neq rfl rfl) rfl ?_ -- t67
                refine WL.on rfl rfl ?_
                refine WL.y (Yl.move rfl) rfl ?_ -- t68
                refine WL.both (t := 68) rfl (fun g68 => ?_) (fun g68 => ?_)
                · refine WL.on rfl rfl ?_
                  refine WL.y (Yl.field fo34_7 rfl) rfl ?_ -- t69
                  refine WL.on rfl rfl ?_
                  refine WL.y (Yl.load on5 rfl (by repeat (first | exact Take1.head | apply Take1.tail)) (Sg.c54 hs)) rfl ?_ -- t70
                  refine WL.on rfl rfl ?_
                  refine WL.y (Yl.neq rfl rfl) rfl ?_ -- t71
                  refine WL.on rfl rfl ?_
                  refine WL.y (Yl.pickT rfl rfl) rfl ?_ -- t72
                  refine WL.y (Yl.pickF rfl rfl) rfl ?_ -- t73
                  refine WL.y (Yl.assign rfl) rfl ?_ -- t49
                  refine WL.say (t := 49) (v' := .bool (bad6 s)) rfl (by (refine congrArg Value.bool ?_; unfold bad6; simp_all)) ?_
                  refine WL.nil ?_
                  exact ⟨rfl, (by repeat (first | exact Sub.nil | refine Sub.cons rfl ?_)), (by repeat (first | exact Sub.nil | refine Sub.cons rfl ?_)), _, (by repeat (first | exact TakeL.nil | (apply TakeL.cons; · repeat (first | exact Take1.head | apply Take1.tail))))⟩
                · refine WL.off rfl rfl rfl rfl ?_ -- t69
                  refine WL.off rfl rfl rfl rfl ?_ -- t70
                  refine WL.off rfl rfl rfl rfl ?_ -- t71
                  refine WL.on rfl rfl ?_
                  refine WL.y (Yl.pickF rfl rfl) rfl ?_ -- t72
                  refine WL.y (Yl.pickF rfl rfl) rfl ?_ -- t73
                  refine WL.y (Yl.assign rfl) rfl ?_ -- t49
                  refine WL.say (t := 49) (v' := .bool (bad6 s)) rfl (by (refine congrArg Value.bool ?_; unfold bad6; simp_all)) ?_
                  refine WL.nil ?_
                  exact ⟨rfl, (by repeat (first | exact Sub.nil | refine Sub.cons rfl ?_)), (by repeat (first | exact Sub.nil | refine Sub.cons rfl ?_)), _, (by repeat (first | exact TakeL.nil | (apply TakeL.cons; · repeat (first | exact Take1.head | apply Take1.tail))))⟩
            · refine WC.cond rfl (fun g49 => ?_) (fun g49 => ?_)
              · refine WC.seq ?_
                refine WC.region ?_
                refine WL.y (Yl.assign rfl) rfl ?_ -- t2
                refine WL.nil ?_
                refine WC.ret ?_
                repeat (first | (with_reducible refine peelT ?_) | (with_reducible refine peelB ?_) | (with_reducible refine peelTX ?_) | (with_reducible refine peelBX ?_) | (with_reducible refine peelBN ?_) | (with_reducible refine peelBO rfl ?_))
                refine ret1 (.inr rfl) Try.results11 rfl fun w' h => ⟨(), trivial, ret_bool (by simp [mayS, *]), h.sub (by repeat (first | exact TakeL.nil | (apply TakeL.cons; · repeat (first | exact Take1.head | apply Take1.tail))))⟩
              · refine WC.seq ?_
                refine WC.region ?_
                refine WL.y (Yl.field fo34_0 rfl) rfl ?_ -- t75
                refine WL.y (Yl.load on5 rfl (by repeat (first | exact Take1.head | apply Take1.tail)) Sg.c0) rfl ?_ -- t76
                refine WL.y (Yl.eql rfl rfl) rfl ?_ -- t77
                refine WL.y (Yl.assign rfl) rfl ?_ -- t74
                refine WL.nil ?_
                refine WC.condD rfl (fun g74 => ?_) (fun g74 => ?_)
                · refine WC.seq ?_
                  refine WC.region ?_
                  refine WL.y (Yl.field fo34_7 rfl) rfl ?_ -- t78
                  refine WL.y (Yl.load on5 rfl (by repeat (first | exact Take1.head | apply Take1.tail)) (Sg.c54 hs)) rfl ?_ -- t79
                  refine WL.y (Yl.geq rfl rfl) rfl ?_ -- t80
                  refine WL.y (Yl.move rfl) rfl ?_ -- t81
                  refine WL.both (t := 81) rfl (fun g81 => ?_) (fun g81 => ?_)
                  · refine WL.on rfl rfl ?_
                    refine WL.y (Yl.field fo34_7 rfl) rfl ?_ -- t82
                    refine WL.on rfl rfl ?_
                    refine WL.y (Yl.load on5 rfl (by repeat (first | exact Take1.head | apply Take1.tail)) (Sg.c54 hs)) rfl ?_ -- t83
                    refine WL.on rfl rfl ?_
                    refine WL.y (Yl.leq rfl rfl) rfl ?_ -- t84
                    refine WL.y (Yl.pickT rfl rfl) rfl ?_ -- t85
                    refine WL.y (Yl.assign rfl) rfl ?_ -- t2
                    refine WL.nil ?_
                    refine WC.ret ?_
                    repeat (first | (with_reducible refine peelT ?_) | (with_reducible refine peelB ?_) | (with_reducible refine peelTX ?_) | (with_reducible refine peelBX ?_) | (with_reducible refine peelBN ?_) | (with_reducible refine peelBO rfl ?_))
                    refine ret1 (.inr rfl) Try.results11 rfl fun w' h => ⟨(), trivial, ?_, h.sub (by repeat (first | exact TakeL.nil | (apply TakeL.cons; · repeat (first | exact Take1.head | apply Take1.tail))))⟩
                    refine ret_bool ?_
                    simp_all [mayS] <;> (first | omega | (intros; omega))
                  · refine WL.off rfl rfl rfl rfl ?_ -- t82
                    refine WL.off rfl rfl rfl rfl ?_ -- t83
                    refine WL.off rfl rfl rfl rfl ?_ -- t84
                    refine WL.y (Yl.pickF rfl rfl) rfl ?_ -- t85
                    refine WL.y (Yl.assign rfl) rfl ?_ -- t2
                    refine WL.nil ?_
                    refine WC.ret ?_
                    repeat (first | (with_reducible refine peelT ?_) | (with_reducible refine peelB ?_) | (with_reducible refine peelTX ?_) | (with_reducible refine peelBX ?_) | (with_reducible refine peelBN ?_) | (with_reducible refine peelBO rfl ?_))
                    refine ret1 (.inr rfl) Try.results11 rfl fun w' h => ⟨(), trivial, ?_, h.sub (by repeat (first | exact TakeL.nil | (apply TakeL.cons; · repeat (first | exact Take1.head | apply Take1.tail))))⟩
                    refine ret_bool ?_
                    simp_all [mayS] <;> (first | omega | (intros; omega))
                · refine WC.skip ?_
                  refine WC.seq ?_
                  refine WC.region ?_
                  refine WL.y (Yl.field fo34_2 rfl) rfl ?_ -- t86
                  refine WL.y (Yl.field fo29_0 rfl) rfl ?_ -- t87
                  refine WL.y (Yl.load on5 rfl (by repeat (first | exact Take1.head | apply Take1.tail)) (Sg.c17 hs)) rfl ?_ -- t88
                  refine WL.y (Yl.lss rfl rfl) rfl ?_ -- t89
                  refine WL.y (Yl.move rfl) rfl ?_ -- t90
                  refine WL.both (t := 90) rfl (fun g90 => ?_) (fun g90 => ?_)
                  · refine WL.on rfl rfl ?_
                    refine WL.y (Yl.field fo34_2 rfl) rfl ?_ -- t91
                    refine WL.on rfl rfl ?_
                    refine WL.y (Yl.field fo29_1 rfl) rfl ?_ -- t92
                    refine WL.on rfl rfl ?_
                    refine WL.y (Yl.load on5 rfl (by repeat (first | exact Take1.head | apply Take1.tail)) (Sg.c18 hs)) rfl ?_ -- t93
                    refine WL.on rfl rfl ?_
                    refine WL.y (Yl.lss rfl rfl) rfl ?_ -- t94
                    refine WL.y (Yl.pickT rfl rfl) rfl ?_ -- t95
                    refine WL.y (Yl.move rfl) rfl ?_ -- t96
                    refine WL.both (t := 96) rfl (fun g96 => ?_) (fun g96 => ?_)
                    · refine WL.on rfl rfl ?_
                      refine WL.y (Yl.field fo34_3 rfl) rfl ?_ -- t97
                      refine WL.on rfl rfl ?_
                      refine WL.y (Yl.load on5 rfl (by repeat (first | exact Take1.head | apply Take1.tail)) (Sg.c19 hs)) rfl ?_ -- t98
                      refine WL.on rfl rfl ?_
                      refine WL.y (Yl.lss rfl rfl) rfl ?_ -- t99
                      refine WL.y (Yl.pickT rfl rfl) rfl ?_ -- t100
                      refine WL.y (Yl.move rfl) rfl ?_ -- t101
                      refine WL.both (t := 101) rfl (fun g101 => ?_) (fun g101 => ?_)
                      · refine WL.on rfl rfl ?_
                        refine WL.y (Yl.field fo34_6 rfl) rfl ?_ -- t102
                        refine WL.on rfl rfl ?_
                        refine WL.y (Yl.load on22 rfl (by repeat (first | exact Take1.head | apply Take1.tail)) (Sg.c53 hs)) rfl ?_ -- t103
                        refine WL.on rfl rfl ?_
                        refine WL.y (Yl.len un22 rfl) rfl ?_ -- t104
                        refine WL.on rfl rfl ?_
                        refine WL.y (Yl.leq rfl rfl) rfl ?_ -- t105
                        refine WL.y (Yl.pickT rfl rfl) rfl ?_ -- t106
                        refine WL.y (Yl.assign rfl) rfl ?_ -- t2
                        refine WL.nil ?_
                        refine WC.ret ?_
                        repeat (first | (with_reducible refine peelT ?_) | (with_reducible refine peelB ?_) | (with_reducible refine peelTX ?_) | (with_reducible refine peelBX ?_) | (with_reducible refine peelBN ?_) | (with_reducible refine peelBO rfl ?_))
                        refine ret1 (.inr rfl) Try.results11 rfl fun w' h => ⟨(), trivial, ?_, h.sub (by repeat (first | exact TakeL.nil | (apply TakeL.cons; · repeat (first | exact Take1.head | apply Take1.tail))))⟩
                        refine ret_bool ?_
                        simp_all [mayS] <;> (first | omega | (intros; omega))
                      · refine WL.off rfl rfl rfl rfl ?_ -- t102
                        refine WL.off rfl rfl rfl rfl ?_ -- t103
                        refine WL.off rfl rfl rfl rfl ?_ -- t104
                        refine WL.off rfl rfl rfl rfl ?_ -- t105
                        refine WL.y (Yl.pickF rfl rfl) rfl ?_ -- t106
                        refine WL.y (Yl.assign rfl) rfl ?_ -- t2
                        refine WL.nil ?_
                        refine WC.ret ?_
                        repeat (first | (with_reducible refine peelT ?_) | (with_reducible refine peelB ?_) | (with_reducible refine peelTX ?_) | (with_reducible refine peelBX ?_) | (with_reducible refine peelBN ?_) | (with_reducible refine peelBO rfl ?_))
                        refine ret1 (.inr rfl) Try.results11 rfl fun w' h => ⟨(), trivial, ?_, h.sub (by repeat (first | exact TakeL.nil | (apply TakeL.cons; · repeat (first | exact Take1.head | apply Take1.tail))))⟩
                        refine ret_bool ?_
                        simp_all [mayS] <;> (first | omega | (intros; omega))
                    · refine WL.off rfl rfl rfl rfl ?_ -- t97
                      refine WL.off rfl rfl rfl rfl ?_ -- t98
                      refine WL.off rfl rfl rfl rfl ?_ -- t99
                      refine WL.y (Yl.pickF rfl rfl) rfl ?_ -- t100
                      refine WL.y (Yl.move rfl) rfl ?_ -- t101
                      refine WL.off rfl rfl rfl rfl ?_ -- t102
                      refine WL.off rfl rfl rfl rfl ?_ -- t103
                      refine WL.off rfl rfl rfl rfl ?_ -- t104
                      refine WL.off rfl rfl rfl rfl ?_ -- t105
                      refine WL.y (Yl.pickF rfl rfl) rfl ?_ -- t106
                      refine WL.y (Yl.assign rfl) rfl ?_ -- t2
                      refine WL.nil ?_
                      refine WC.ret ?_
                      repeat (first | (with_reducible refine peelT ?_) | (with_reducible refine peelB ?_) | (with_reducible refine peelTX ?_) | (with_reducible refine peelBX ?_) | (with_reducible refine peelBN ?_) | (with_reducible refine peelBO rfl ?_))
                      refine ret1 (.inr rfl) Try.results11 rfl fun w' h => ⟨(), trivial, ?_, h.sub (by repeat (first | exact TakeL.nil | (apply TakeL.cons; · repeat (first | exact Take1.head | apply Take1.tail))))⟩
                      refine ret_bool ?_
                      simp_all [mayS] <;> (first | omega | (intros; omega))
                  · refine WL.off rfl rfl rfl rfl ?_ -- t91
                    refine WL.off rfl rfl rfl rfl ?_ -- t92
                    refine WL.off rfl rfl rfl rfl ?_ -- t93
                    refine WL.off rfl rfl rfl rfl ?_ -- t94
                    refine WL.y (Yl.pickF rfl rfl) rfl ?_ -- t95
                    refine WL.y (Yl.move rfl) rfl ?_ -- t96
                    refine WL.off rfl rfl rfl rfl ?_ -- t97
                    refine WL.off rfl rfl rfl rfl ?_ -- t98
                    refine WL.off rfl rfl rfl rfl ?_ -- t99
                    refine WL.y (Yl.pickF rfl rfl) rfl ?_ -- t100
                    refine WL.y (Yl.move rfl) rfl ?_ -- t101
                    refine WL.off rfl rfl rfl rfl ?_ -- t102
                    refine WL.off rfl rfl rfl rfl ?_ -- t103
                    refine WL.off rfl rfl rfl rfl ?_ -- t104
                    refine WL.off rfl rfl rfl rfl ?_ -- t105
                    refine WL.y (Yl.pickF rfl rfl) rfl ?_ -- t106
                    refine WL.y (Yl.assign rfl) rfl ?_ -- t2
                    refine WL.nil ?_
                    refine WC.ret ?_
                    repeat (first | (with_reducible refine peelT ?_) | (with_reducible refine peelB ?_) | (with_reducible refine peelTX ?_) | (with_reducible refine peelBX ?_) | (with_reducible refine peelBN ?_) | (with_reducible refine peelBO rfl ?_))
                    refine ret1 (.inr rfl) Try.results11 rfl fun w' h => ⟨(), trivial, ?_, h.sub (by repeat (first | exact TakeL.nil | (apply TakeL.cons; · repeat (first | exact Take1.head | apply Take1.tail))))⟩
                    refine ret_bool ?_
                    simp_all [mayS] <;> (first | omega | (intros; omega))

theorem same_any (a b : Sg) (ha : a.ok) (hb : b.ok) (w : World) (xa : RdS w (fpL []) (.slice a.da a.data.length a.dc) 1 a.data.length (ints .u8 a.data)) (xb : RdS w (fpL []) (.slice b.da b.data.length b.dc) 1 b.data.length (ints .u8 b.data)) (hw : OK w (fpL []) [] w) :
    Fn Try.prog 14 [.agg a.cells.toArray, .agg b.cells.toArray] [] w (fun _ : Unit => True) (fun _ => .bool (sameS a b)) (fun _ => []) := by
  refine enterF Try.func14 rfl Try.ntmps14 rfl hw ?_
  refine WC.seq ?_
  refine WC.region ?_
  refine WL.to (To.box (cs := a.cells) rfl rfl) rfl ?_ -- t2
  intro b2
  refine WL.to (To.box (cs := b.cells) rfl rfl) rfl ?_ -- t3
  intro b3
  refine WL.y (Yl.assign rfl) rfl ?_ -- t4
  refine WL.nil ?_
  refine WC.seq ?_
  refine WC.region ?_
  refine WL.y (Yl.field fo34_0 rfl) rfl ?_ -- t5
  refine WL.y (Yl.load on5 rfl (by repeat (first | exact Take1.head | apply Take1.tail)) Sg.c0) rfl ?_ -- t6
  refine WL.y (Yl.field fo34_0 rfl) rfl ?_ -- t7
  refine WL.y (Yl.load on5 rfl (by repeat (first | exact Take1.head | apply Take1.tail)) Sg.c0) rfl ?_ -- t8
  refine WL.y (Yl.eql rfl rfl) rfl ?_ -- t9
  refine WL.y (Yl.move rfl) rfl ?_ -- t10
  refine WL.both (t := 10) rfl (fun g10 => ?_) (fun g10 => ?_)
  · refine WL.on rfl rfl ?_
    refine WL.y (Yl.field fo34_1 rfl) rfl ?_ -- t11
    refine WL.on rfl rfl ?_
    refine WL.y (Yl.loadN ag27 rfl (by repeat (first | exact Take1.head | apply Take1.tail)) (fitLe (by rw [Sg.len ha]; omega)) (Sg.cid ha)) rfl ?_ -- t12
    refine WL.on rfl rfl ?_
    refine WL.y (Yl.field fo34_1 rfl) rfl ?_ -- t13
    refine WL.on rfl rfl ?_
    refine WL.y (Yl.loadN ag27 rfl (by repeat (first | exact Take1.head | apply Take1.tail)) (fitLe (by rw [Sg.len hb]; omega)) (Sg.cid hb)) rfl ?_ -- t14
    refine WL.on rfl rfl ?_
    refine WL.y (Yl.eqA flSid rfl rfl (fitsB ha.il ha.ib) (fitsB hb.il hb.ib)) rfl ?_
    rw [eqV_ints]
    refine WL.y (Yl.pickT rfl rfl) rfl ?_ -- t16
    refine WL.y (Yl.move rfl) rfl ?_ -- t17
    refine WL.both (t := 17) rfl (fun g17 => ?_) (fun g17 => ?_)
    · refine WL.on rfl rfl ?_
      refine WL.y (Yl.field fo34_2 rfl) rfl ?_ -- t18
      refine WL.on rfl rfl ?_
      refine WL.y (Yl.loadN ag29 rfl (by repeat (first | exact Take1.head | apply Take1.tail)) (fitLe (by rw [Sg.len ha]; omega)) (Sg.ccal ha)) rfl ?_ -- t19
      refine WL.on rfl rfl ?_
      refine WL.y (Yl.field fo34_2 rfl) rfl ?_ -- t20
      refine WL.on rfl rfl ?_
      refine WL.y (Yl.loadN ag29 rfl (by repeat (first | exact Take1.head | apply Take1.tail)) (fitLe (by rw [Sg.len hb]; omega)) (Sg.ccal hb)) rfl ?_ -- t21
      refine WL.on rfl rfl ?_
      refine WL.y (Yl.eqA flDev rfl rfl (fitsDev ha.ca ha.cd) (fitsDev hb.ca hb.cd)) rfl ?_
      rw [eqV_dev]
      refine WL.y (Yl.pickT rfl rfl) rfl ?_ -- t23
      refine WL.y (Yl.move rfl) rfl ?_ -- t24
      refine WL.both (t := 24) rfl (fun g24 => ?_) (fun g24 => ?_)
      · refine WL.on rfl rfl ?_
        refine WL.y (Yl.field fo34_3 rfl) rfl ?_ -- t25
        refine WL.on rfl rfl ?_
        refine WL.y (Yl.load on5 rfl (by repeat (first | exact Take1.head | apply Take1.tail)) (Sg.c19 ha)) rfl ?_ -- t26
        refine WL.on rfl rfl ?_
        refine WL.y (Yl.field fo34_3 rfl) rfl ?_ -- t27
        refine WL.on rfl rfl ?_
        refine WL.y (Yl.load on5 rfl (by repeat (first | exact Take1.head | apply Take1.tail)) (Sg.c19 hb)) rfl ?_ -- t28
        refine WL.on rfl rfl ?_
        refine WL.y (Yl.eql rfl rfl) rfl ?_ -- t29
        refine WL.y (Yl.pickT rfl rfl) rfl ?_ -- t30
        refine WL.y (Yl.move rfl) rfl ?_ -- t31
        refine WL.both (t := 31) rfl (fun g31 => ?_) (fun g31 => ?_)
        · refine WL.on rfl rfl ?_
          refine WL.y (Yl.field fo34_4 rfl) rfl ?_ -- t32
          refine WL.on rfl rfl ?_
          refine WL.y (Yl.loadN ag31 rfl (by repeat (first | exact Take1.head | apply Take1.tail)) (fitLe (by rw [Sg.len ha]; omega)) (Sg.ckey ha)) rfl ?_ -- t33
          refine WL.on rfl rfl ?_
          refine WL.y (Yl.field fo34_4 rfl) rfl ?_ -- t34
          refine WL.on rfl rfl ?_
          refine WL.y (Yl.loadN ag31 rfl (by repeat (first | exact Take1.head | apply Take1.tail)) (fitLe (by rw [Sg.len hb]; omega)) (Sg.ckey hb)) rfl ?_ -- t35
          refine WL.on rfl rfl ?_
          refine WL.y (Yl.eqA flKey rfl rfl (fitsB ha.kl ha.kb) (fitsB hb.kl hb.kb)) rfl ?_
          rw [eqV_ints]
          refine WL.y (Yl.pickT rfl rfl) rfl ?_ -- t37
          refine WL.y (Yl.move rfl) rfl ?_ -- t38
          refine WL.both (t := 38) rfl (fun g38 => ?_) (fun g38 => ?_)
          · refine WL.on rfl rfl ?_
            refine WL.y (Yl.field fo34_5 rfl) rfl ?_ -- t39
            refine WL.on rfl rfl ?_
            refine WL.y (Yl.load on32 rfl (by repeat (first | exact Take1.head | apply Take1.tail)) (Sg.c52 ha)) rfl ?_ -- t40
            refine WL.on rfl rfl ?_
            refine WL.y (Yl.field fo34_5 rfl) rfl ?_ -- t41
            refine WL.on rfl rfl ?_
            refine WL.y (Yl.load on32 rfl (by repeat (first | exact Take1.head | apply Take1.tail)) (Sg.c52 hb)) rfl ?_ -- t42
            refine WL.on rfl rfl ?_
            refine WL.y (Yl.eql rfl rfl) rfl ?_ -- t43
            refine WL.y (Yl.pickT rfl rfl) rfl ?_ -- t44
            refine WL.y (Yl.move rfl) rfl ?_ -- t45
            refine WL.both (t := 45) rfl (fun g45 => ?_) (fun g45 => ?_)
            · refine WL.on rfl rfl ?_
              refine WL.y (Yl.field fo34_6 rfl) rfl ?_ -- t46
              refine WL.on rfl rfl ?_
              refine WL.y (Yl.load on22 rfl (by repeat (first | exact Take1.head | apply Take1.tail)) (Sg.c53 ha)) rfl ?_ -- t47
              refine WL.on rfl rfl ?_
              refine WL.y (Yl.toStr un22 un5 un9 rfl (Reads.s xa)) rfl ?_ -- t48
              refine WL.on rfl rfl ?_
              refine WL.y (Yl.field fo34_6 rfl) rfl ?_ -- t49
              refine WL.on rfl rfl ?_
              refine WL.y (Yl.load on22 rfl (by repeat (first | exact Take1.head | apply Take1.tail)) (Sg.c53 hb)) rfl ?_ -- t50
              refine WL.on rfl rfl ?_
              refine WL.y (Yl.toStr un22 un5 un9 rfl (Reads.s xb)) rfl ?_ -- t51
              refine WL.on rfl rfl ?_
              refine WL.y (Yl.sEq rfl rfl) rfl ?_ -- t52
              rw [strEq ha.db hb.db]
              refine WL.y (Yl.pickT rfl rfl) rfl ?_ -- t53
              refine WL.y (Yl.move rfl) rfl ?_ -- t54
              refine WL.both (t := 54) rfl (fun g54 => ?_) (fun g54 => ?_)
              · refine WL.on rfl rfl ?_
                refine WL.y (Yl.field fo34_7 rfl) rfl ?_ -- t55
                refine WL.on rfl rfl ?_
                refine WL.y (Yl.load on5 rfl (by repeat (first | exact Take1.head | apply Take1.tail)) (Sg.c54 ha)) rfl ?_ -- t56
                refine WL.on rfl rfl ?_
                refine WL.y (Yl.field fo34_7 rfl) rfl ?_ -- t57
                refine WL.on rfl rfl ?_
                refine WL.y (Yl.load on5 rfl (by repeat (first | exact Take1.head | apply Take1.tail)) (Sg.c54 hb)) rfl ?_ -- t58
                refine WL.on rfl rfl ?_
                refine WL.y (Yl.eql rfl rfl) rfl ?_ -- t59
                refine WL.y (Yl.pickT rfl rfl) rfl ?_ -- t60
                refine WL.y (Yl.assign rfl) rfl ?_ -- t4
                refine WL.nil ?_
                refine WC.ret ?_
                repeat (first | (with_reducible refine peelT ?_) | (with_reducible refine peelB ?_) | (with_reducible refine peelTX ?_) | (with_reducible refine peelBX ?_) | (with_reducible refine peelBN ?_) | (with_reducible refine peelBO rfl ?_))
                refine ret1 (.inr rfl) Try.results14 rfl fun w' h => ⟨(), trivial, ?_, h.sub (by repeat (first | exact TakeL.nil | (apply TakeL.cons; · repeat (first | exact Take1.head | apply Take1.tail))))⟩
                refine ret_bool ?_
                simp_all [sameS]
              · refine WL.off rfl rfl rfl rfl ?_ -- t55
                refine WL.off rfl rfl rfl rfl ?_ -- t56
                refine WL.off rfl rfl rfl rfl ?_ -- t57
                refine WL.off rfl rfl rfl rfl ?_ -- t58
                refine WL.off rfl rfl rfl rfl ?_ -- t59
                refine WL.y (Yl.pickF rfl rfl) rfl ?_ -- t60
                refine WL.y (Yl.assign rfl) rfl ?_ -- t4
                refine WL.nil ?_
                refine WC.ret ?_
                repeat (first | (with_reducible refine peelT ?_) | (with_reducible refine peelB ?_) | (with_reducible refine peelTX ?_) | (with_reducible refine peelBX ?_) | (with_reducible refine peelBN ?_) | (with_reducible refine peelBO rfl ?_))
                refine ret1 (.inr rfl) Try.results14 rfl fun w' h => ⟨(), trivial, ?_, h.sub (by repeat (first | exact TakeL.nil | (apply TakeL.cons; · repeat (first | exact Take1.head | apply Take1.tail))))⟩
                refine ret_bool ?_
                simp_all [sameS]
            · refine WL.off rfl rfl rfl rfl ?_ -- t46
              refine WL.off rfl rfl rfl rfl ?_ -- t47
              refine WL.off rfl rfl rfl rfl ?_ -- t48
              refine WL.off rfl rfl rfl rfl ?_ -- t49
              refine WL.off rfl rfl rfl rfl ?_ -- t50
              refine WL.off rfl rfl rfl rfl ?_ -- t51
              refine WL.off rfl rfl rfl rfl ?_ -- t52
              refine WL.y (Yl.pickF rfl rfl) rfl ?_ -- t53
              refine WL.y (Yl.move rfl) rfl ?_ -- t54
              refine WL.off rfl rfl rfl rfl ?_ -- t55
              refine WL.off rfl rfl rfl rfl ?_ -- t56
              refine WL.off rfl rfl rfl rfl ?_ -- t57
              refine WL.off rfl rfl rfl rfl ?_ -- t58
              refine WL.off rfl rfl rfl rfl ?_ -- t59
              refine WL.y (Yl.pickF rfl rfl) rfl ?_ -- t60
              refine WL.y (Yl.assign rfl) rfl ?_ -- t4
              refine WL.nil ?_
              refine WC.ret ?_
              repeat (first | (with_reducible refine peelT ?_) | (with_reducible refine peelB ?_) | (with_reducible refine peelTX ?_) | (with_reducible refine peelBX ?_) | (with_reducible refine peelBN ?_) | (with_reducible refine peelBO rfl ?_))
              refine ret1 (.inr rfl) Try.results14 rfl fun w' h => ⟨(), trivial, ?_, h.sub (by repeat (first | exact TakeL.nil | (apply TakeL.cons; · repeat (first | exact Take1.head | apply Take1.tail))))⟩
              refine ret_bool ?_
              simp_all [sameS]
          · refine WL.off rfl rfl rfl rfl ?_ -- t39
            refine WL.off rfl rfl rfl rfl ?_ -- t40
            refine WL.off rfl rfl rfl rfl ?_ -- t41
            refine WL.off rfl rfl rfl rfl ?_ -- t42
            refine WL.off rfl rfl rfl rfl ?_ -- t43
            refine WL.y (Yl.pickF rfl rfl) rfl ?_ -- t44
            refine WL.y (Yl.move rfl) rfl ?_ -- t45
            refine WL.off rfl rfl rfl rfl ?_ -- t46
            refine WL.off rfl rfl rfl rfl ?_ -- t47
            refine WL.off rfl rfl rfl rfl ?_ -- t48
            refine WL.off rfl rfl rfl rfl ?_ -- t49
            refine WL.off rfl rfl rfl rfl ?_ -- t50
            refine WL.off rfl rfl rfl rfl ?_ -- t51
            refine WL.off rfl rfl rfl rfl ?_ -- t52
            refine WL.y (Yl.pickF rfl rfl) rfl ?_ -- t53
            refine WL.y (Yl.move rfl) rfl ?_ -- t54
            refine WL.off rfl rfl rfl rfl ?_ -- t55
            refine WL.off rfl rfl rfl rfl ?_ -- t56
            refine WL.off rfl rfl rfl rfl ?_ -- t57
            refine WL.off rfl rfl rfl rfl ?_ -- t58
            refine WL.off rfl rfl rfl rfl ?_ -- t59
            refine WL.y (Yl.pickF rfl rfl) rfl ?_ -- t60
            refine WL.y (Yl.assign rfl) rfl ?_ -- t4
            refine WL.nil ?_
            refine WC.ret ?_
            repeat (first | (with_reducible refine peelT ?_) | (with_reducible refine peelB ?_) | (with_reducible refine peelTX ?_) | (with_reducible refine peelBX ?_) | (with_reducible refine peelBN ?_) | (with_reducible refine peelBO rfl ?_))
            refine ret1 (.inr rfl) Try.results14 rfl fun w' h => ⟨(), trivial, ?_, h.sub (by repeat (first | exact TakeL.nil | (apply TakeL.cons; · repeat (first | exact Take1.head | apply Take1.tail))))⟩
            refine ret_bool ?_
            simp_all [sameS]
        · refine WL.off rfl rfl rfl rfl ?_ -- t32
          refine WL.off rfl rfl rfl rfl ?_ -- t33
          refine WL.off rfl rfl rfl rfl ?_ -- t34
          refine WL.off rfl rfl rfl rfl ?_ -- t35
          refine WL.off rfl rfl rfl rfl ?_ -- t36
          refine WL.y (Yl.pickF rfl rfl) rfl ?_ -- t37
          refine WL.y (Yl.move rfl) rfl ?_ -- t38
          refine WL.off rfl rfl rfl rfl ?_ -- t39
          refine WL.off rfl rfl rfl rfl ?_ -- t40
          refine WL.off rfl rfl rfl rfl ?_ -- t41
          refine WL.off rfl rfl rfl rfl ?_ -- t42
          refine WL.off rfl rfl rfl rfl ?_ -- t43
          refine WL.y (Yl.pickF rfl rfl) rfl ?_ -- t44
          refine WL.y (Yl.move rfl) rfl ?_ -- t45
          refine WL.off rfl rfl rfl rfl ?_ -- t46
          refine WL.off rfl rfl rfl rfl ?_ -- t47
          refine WL.off rfl rfl rfl rfl ?_ -- t48
          refine WL.off rfl rfl rfl rfl ?_ -- t49
          refine WL.off rfl rfl rfl rfl ?_ -- t50
          refine WL.off rfl rfl rfl rfl ?_ -- t51
          refine WL.off rfl rfl rfl rfl ?_ -- t52
          refine WL.y (Yl.pickF rfl rfl) rfl ?_ -- t53
          refine WL.y (Yl.move rfl) rfl ?_ -- t54
          refine WL.off rfl rfl rfl rfl ?_ -- t55
          refine WL.off rfl rfl rfl rfl ?_ -- t56
          refine WL.off rfl rfl rfl rfl ?_ -- t57
          refine WL.off rfl rfl rfl rfl ?_ -- t58
          refine WL.off rfl rfl rfl rfl ?_ -- t59
          refine WL.y (Yl.pickF rfl rfl) rfl ?_ -- t60
          refine WL.y (Yl.assign rfl) rfl ?_ -- t4
          refine WL.nil ?_
          refine WC.ret ?_
          repeat (first | (with_reducible refine peelT ?_) | (with_reducible refine peelB ?_) | (with_reducible refine peelTX ?_) | (with_reducible refine peelBX ?_) | (with_reducible refine peelBN ?_) | (with_reducible refine peelBO rfl ?_))
          refine ret1 (.inr rfl) Try.results14 rfl fun w' h => ⟨(), trivial, ?_, h.sub (by repeat (first | exact TakeL.nil | (apply TakeL.cons; · repeat (first | exact Take1.head | apply Take1.tail))))⟩
          refine ret_bool ?_
          simp_all [sameS]
      · refine WL.off rfl rfl rfl rfl ?_ -- t25
        refine WL.off rfl rfl rfl rfl ?_ -- t26
        refine WL.off rfl rfl rfl rfl ?_ -- t27
        refine WL.off rfl rfl rfl rfl ?_ -- t28
        refine WL.off rfl rfl rfl rfl ?_ -- t29
        refine WL.y (Yl.pickF rfl rfl) rfl ?_ -- t30
        refine WL.y (Yl.move rfl) rfl ?_ -- t31
        refine WL.off rfl rfl rfl rfl ?_ -- t32
        refine WL.off rfl rfl rfl rfl ?_ -- t33
        refine WL.off rfl rfl rfl rfl ?_ -- t34
        refine WL.off rfl rfl rfl rfl ?_ -- t35
        refine WL.off rfl rfl rfl rfl ?_ -- t36
        refine WL.y (Yl.pickF rfl rfl) rfl ?_ -- t37
        refine WL.y (Yl.move rfl) rfl ?_ -- t38
        refine WL.off rfl rfl rfl rfl ?_ -- t39
        refine WL.off rfl rfl rfl rfl ?_ -- t40
        refine WL.off rfl rfl rfl rfl ?_ -- t41
        refine WL.off rfl rfl rfl rfl ?_ -- t42
        refine WL.off rfl rfl rfl rfl ?_ -- t43
        refine WL.y (Yl.pickF rfl rfl) rfl ?_ -- t44
        refine WL.y (Yl.move rfl) rfl ?_ -- t45
        refine WL.off rfl rfl rfl rfl ?_ -- t46
        refine WL.off rfl rfl rfl rfl ?_ -- t47
        refine WL.off rfl rfl rfl rfl ?_ -- t48
        refine WL.off rfl rfl rfl rfl ?_ -- t49
        refine WL.off rfl rfl rfl rfl ?_ -- t50
        refine WL.off rfl rfl rfl rfl ?_ -- t51
        refine WL.off rfl rfl rfl rfl ?_ -- t52
        refine WL.y (Yl.pickF rfl rfl) rfl ?_ -- t53
        refine WL.y (Yl.move rfl) rfl ?_ -- t54
        refine WL.off rfl rfl rfl rfl ?_ -- t55
        refine WL.off rfl rfl rfl rfl ?_ -- t56
        refine WL.off rfl rfl rfl rfl ?_ -- t57
        refine WL.off rfl rfl rfl rfl ?_ -- t58
        refine WL.off rfl rfl rfl rfl ?_ -- t59
        refine WL.y (Yl.pickF rfl rfl) rfl ?_ -- t60
        refine WL.y (Yl.assign rfl) rfl ?_ -- t4
        refine WL.nil ?_
        refine WC.ret ?_
        repeat (first | (with_reducible refine peelT ?_) | (with_reducible refine peelB ?_) | (with_reducible refine peelTX ?_) | (with_reducible refine peelBX ?_) | (with_reducible refine peelBN ?_) | (with_reducible refine peelBO rfl ?_))
        refine ret1 (.inr rfl) Try.results14 rfl fun w' h => ⟨(), trivial, ?_, h.sub (by repeat (first | exact TakeL.nil | (apply TakeL.cons; · repeat (first | exact Take1.head | apply Take1.tail))))⟩
        refine ret_bool ?_
        simp_all [sameS]
    · refine WL.off rfl rfl rfl rfl ?_ -- t18
      refine WL.off rfl rfl rfl rfl ?_ -- t19
      refine WL.off rfl rfl rfl rfl ?_ -- t20
      refine WL.off rfl rfl rfl rfl ?_ -- t21
      refine WL.off rfl rfl rfl rfl ?_ -- t22
      refine WL.y (Yl.pickF rfl rfl) rfl ?_ -- t23
      refine WL.y (Yl.move rfl) rfl ?_ -- t24
      refine WL.off rfl rfl rfl rfl ?_ -- t25
      refine WL.off rfl rfl rfl rfl ?_ -- t26
      refine WL.off rfl rfl rfl rfl ?_ -- t27
      refine WL.off rfl rfl rfl rfl ?_ -- t28
      refine WL.off rfl rfl rfl rfl ?_ -- t29
      refine WL.y (Yl.pickF rfl rfl) rfl ?_ -- t30
      refine WL.y (Yl.move rfl) rfl ?_ -- t31
      refine WL.off rfl rfl rfl rfl ?_ -- t32
      refine WL.off rfl rfl rfl rfl ?_ -- t33
      refine WL.off rfl rfl rfl rfl ?_ -- t34
      refine WL.off rfl rfl rfl rfl ?_ -- t35
      refine WL.off rfl rfl rfl rfl ?_ -- t36
      refine WL.y (Yl.pickF rfl rfl) rfl ?_ -- t37
      refine WL.y (Yl.move rfl) rfl ?_ -- t38
      refine WL.off rfl rfl rfl rfl ?_ -- t39
      refine WL.off rfl rfl rfl rfl ?_ -- t40
      refine WL.off rfl rfl rfl rfl ?_ -- t41
      refine WL.off rfl rfl rfl rfl ?_ -- t42
      refine WL.off rfl rfl rfl rfl ?_ -- t43
      refine WL.y (Yl.pickF rfl rfl) rfl ?_ -- t44
      refine WL.y (Yl.move rfl) rfl ?_ -- t45
      refine WL.off rfl rfl rfl rfl ?_ -- t46
      refine WL.off rfl rfl rfl rfl ?_ -- t47
      refine WL.off rfl rfl rfl rfl ?_ -- t48
      refine WL.off rfl rfl rfl rfl ?_ -- t49
      refine WL.off rfl rfl rfl rfl ?_ -- t50
      refine WL.off rfl rfl rfl rfl ?_ -- t51
      refine WL.off rfl rfl rfl rfl ?_ -- t52
      refine WL.y (Yl.pickF rfl rfl) rfl ?_ -- t53
      refine WL.y (Yl.move rfl) rfl ?_ -- t54
      refine WL.off rfl rfl rfl rfl ?_ -- t55
      refine WL.off rfl rfl rfl rfl ?_ -- t56
      refine WL.off rfl rfl rfl rfl ?_ -- t57
      refine WL.off rfl rfl rfl rfl ?_ -- t58
      refine WL.off rfl rfl rfl rfl ?_ -- t59
      refine WL.y (Yl.pickF rfl rfl) rfl ?_ -- t60
      refine WL.y (Yl.assign rfl) rfl ?_ -- t4
      refine WL.nil ?_
      refine WC.ret ?_
      repeat (first | (with_reducible refine peelT ?_) | (with_reducible refine peelB ?_) | (with_reducible refine peelTX ?_) | (with_reducible refine peelBX ?_) | (with_reducible refine peelBN ?_) | (with_reducible refine peelBO rfl ?_))
      refine ret1 (.inr rfl) Try.results14 rfl fun w' h => ⟨(), trivial, ?_, h.sub (by repeat (first | exact TakeL.nil | (apply TakeL.cons; · repeat (first | exact Take1.head | apply Take1.tail))))⟩
      refine ret_bool ?_
      simp_all [sameS]
  · refine WL.off rfl rfl rfl rfl ?_ -- t11
    refine WL.off rfl rfl rfl rfl ?_ -- t12
    refine WL.off rfl rfl rfl rfl ?_ -- t13
    refine WL.off rfl rfl rfl rfl ?_ -- t14
    refine WL.off rfl rfl rfl rfl ?_ -- t15
    refine WL.y (Yl.pickF rfl rfl) rfl ?_ -- t16
    refine WL.y (Yl.move rfl) rfl ?_ -- t17
    refine WL.off rfl rfl rfl rfl ?_ -- t18
    refine WL.off rfl rfl rfl rfl ?_ -- t19
    refine WL.off rfl rfl rfl rfl ?_ -- t20
    refine WL.off rfl rfl rfl rfl ?_ -- t21
    refine WL.off rfl rfl rfl rfl ?_ -- t22
    refine WL.y (Yl.pickF rfl rfl) rfl ?_ -- t23
    refine WL.y (Yl.move rfl) rfl ?_ -- t24
    refine WL.off rfl rfl rfl rfl ?_ -- t25
    refine WL.off rfl rfl rfl rfl ?_ -- t26
    refine WL.off rfl rfl rfl rfl ?_ -- t27
    refine WL.off rfl rfl rfl rfl ?_ -- t28
    refine WL.off rfl rfl rfl rfl ?_ -- t29
    refine WL.y (Yl.pickF rfl rfl) rfl ?_ -- t30
    refine WL.y (Yl.move rfl) rfl ?_ -- t31
    refine WL.off rfl rfl rfl rfl ?_ -- t32
    refine WL.off rfl rfl rfl rfl ?_ -- t33
    refine WL.off rfl rfl rfl rfl ?_ -- t34
    refine WL.off rfl rfl rfl rfl ?_ -- t35
    refine WL.off rfl rfl rfl rfl ?_ -- t36
    refine WL.y (Yl.pickF rfl rfl) rfl ?_ -- t37
    refine WL.y (Yl.move rfl) rfl ?_ -- t38
    refine WL.off rfl rfl rfl rfl ?_ -- t39
    refine WL.off rfl rfl rfl rfl ?_ -- t40
    refine WL.off rfl rfl rfl rfl ?_ -- t41
    refine WL.off rfl rfl rfl rfl ?_ -- t42
    refine WL.off rfl rfl rfl rfl ?_ -- t43
    refine WL.y (Yl.pickF rfl rfl) rfl ?_ -- t44
    refine WL.y (Yl.move rfl) rfl ?_ -- t45
    refine WL.off rfl rfl rfl rfl ?_ -- t46
    refine WL.off rfl rfl rfl rfl ?_ -- t47
    refine WL.off rfl rfl rfl rfl ?_ -- t48
    refine WL.off rfl rfl rfl rfl ?_ -- t49
    refine WL.off rfl rfl rfl rfl ?_ -- t50
    refine WL.off rfl rfl rfl rfl ?_ -- t51
    refine WL.off rfl rfl rfl rfl ?_ -- t52
    refine WL.y (Yl.pickF rfl rfl) rfl ?_ -- t53
    refine WL.y (Yl.move rfl) rfl ?_ -- t54
    refine WL.off rfl rfl rfl rfl ?_ -- t55
    refine WL.off rfl rfl rfl rfl ?_ -- t56
    refine WL.off rfl rfl rfl rfl ?_ -- t57
    refine WL.off rfl rfl rfl rfl ?_ -- t58
    refine WL.off rfl rfl rfl rfl ?_ -- t59
    refine WL.y (Yl.pickF rfl rfl) rfl ?_ -- t60
    refine WL.y (Yl.assign rfl) rfl ?_ -- t4
    refine WL.nil ?_
    refine WC.ret ?_
    repeat (first | (with_reducible refine peelT ?_) | (with_reducible refine peelB ?_) | (with_reducible refine peelTX ?_) | (with_reducible refine peelBX ?_) | (with_reducible refine peelBN ?_) | (with_reducible refine peelBO rfl ?_))
    refine ret1 (.inr rfl) Try.results14 rfl fun w' h => ⟨(), trivial, ?_, h.sub (by repeat (first | exact TakeL.nil | (apply TakeL.cons; · repeat (first | exact Take1.head | apply Take1.tail))))⟩
    refine ret_bool ?_
    simp_all [sameS]
theorem rsmay_any (s : Sg) (hs : s.ok) (w : World) (xs : RdS w (fpL []) (.slice s.da s.data.length s.dc) 1 s.data.length (ints .u8 s.data)) (hw : OK w (fpL []) [] w) : Fn Try.prog 10 [.agg s.cells.toArray] [] w (fun _ : Unit => True) (fun _ => .bool (mayS s)) (fun _ => []) := by
  have z : 0 ≤ (0 : Int) ∧ (0 : Int) < 256 := by decide
  have z4 : 0 ≤ (0 : Int) ∧ (0 : Int) < 4294967296 := by decide
  have zk := zero32_ok
  have zd : Bytes [] := fun _ h => by cases h
  refine enterF Try.func10 rfl Try.ntmps10 rfl hw ?_
  refine WC.seq ?_
  refine WC.region ?_
  refine WL.to (To.box (cs := s.cells) rfl rfl) rfl ?_ -- t1
  intro b1
  refine WL.y (Yl.assign rfl) rfl ?_ -- t2
  refine WL.nil ?_
  refine WC.seq ?_
  refine WC.region ?_
  refine WL.y (Yl.field fo34_0 rfl) rfl ?_ -- t4
  refine WL.y (Yl.load on5 rfl (by repeat (first | exact Take1.head | apply Take1.tail)) Sg.c0) rfl ?_ -- t5
  refine WL.y (Yl.field fo34_1 rfl) rfl ?_ -- t6
  refine WL.y (Yl.loadN ag27 rfl (by repeat (first | exact Take1.head | apply Take1.tail)) (fitLe (by rw [Sg.len hs]; omega)) (Sg.cid hs)) rfl ?_ -- t7
  refine WL.y (Yl.build rfl (cs := (Sg.mk s.kind s.id 0 0 0 zero32 0 none 0 [] 0).cells) (build_sg hs.il _)) rfl ?_ -- t8
  refine WL.to (To.alloc (cs := Sg.zero.cells) zr34 rfl) rfl ?_ -- t3
  intro b3
  refine WL.sto (Sto.agg sz34 rfl rfl (by repeat (first | exact Take1.head | apply Take1.tail)) (Sg.ones _) (Sg.len2 hs.il (by first | exact hs.kl | rfl)) (by rfl) (Sg.all rfl (Sg.mk s.kind s.id 0 0 0 zero32 0 none 0 [] 0).cells)) (fun _ h => nomatch h) ?_ -- st 1
  refine WL.nil ?_
  refine WC.seq ?_
  refine WC.seq ?_
  refine WC.region ?_
  refine WL.y (Yl.field fo34_0 rfl) rfl ?_ -- t9
  refine WL.y (Yl.load on5 rfl (by repeat (first | exact Take1.head | apply Take1.tail)) Sg.c0) rfl ?_ -- t10
  refine WL.nil ?_
  refine WC.block ?_
  refine WC.seq ?_
  refine WC.region ?_
  refine WL.y (Yl.eql rfl rfl) rfl ?_ -- t12
  refine WL.y (Yl.assign rfl) rfl ?_ -- t11
  refine WL.nil ?_
  refine WC.condD rfl (fun g11 => ?_) (fun g11 => ?_)
  · refine WC.seq ?_
    refine WC.region ?_
    refine WL.y (Yl.field fo34_2 rfl) rfl ?_ -- t13
    refine WL.y (Yl.loadN ag29 rfl (by repeat (first | exact Take1.head | apply Take1.tail)) (fitLe (by rw [Sg.len hs]; omega)) (Sg.ccal hs)) rfl ?_ -- t14
    refine WL.y (Yl.field fo34_2 rfl) rfl ?_ -- t15
    refine WL.sto (Sto.agg sz29 rfl rfl (by repeat (first | exact Take1.head | apply Take1.tail)) (by intro v hv; simp at hv; rcases hv with rfl | rfl <;> rfl) rfl (fitLe (by rw [Sg.len2 hs.il (by first | exact hs.kl | rfl)]; omega)) (Sg.pdev (s := (Sg.mk s.kind s.id 0 0 0 zero32 0 none 0 [] 0)) hs.il s.ca s.cd)) (fun _ h => nomatch h) ?_ -- st 2
    refine WL.nil ?_
    refine WC.seq ?_
    refine WC.region ?_
    refine WL.y (Yl.field fo34_3 rfl) rfl ?_ -- t16
    refine WL.y (Yl.load on5 rfl (by repeat (first | exact Take1.head | apply Take1.tail)) (Sg.c19 hs)) rfl ?_ -- t17
    refine WL.y (Yl.field fo34_3 rfl) rfl ?_ -- t18
    refine WL.sto (Sto.one sz5 rfl rfl (by repeat (first | exact Take1.head | apply Take1.tail)) rfl (fitLt (by rw [Sg.len2 hs.il (by first | exact hs.kl | rfl)]; omega)) (Sg.s19 (s := (Sg.mk s.kind s.id s.ca s.cd 0 zero32 0 none 0 [] 0)) hs.il s.ce)) (fun _ h => nomatch h) ?_
    refine WL.nil ?_
    refine WC.seq ?_
    refine WC.region ?_
    refine WL.y (Yl.field fo34_4 rfl) rfl ?_ -- t19
    refine WL.y (Yl.loadN ag31 rfl (by repeat (first | exact Take1.head | apply Take1.tail)) (fitLe (by rw [Sg.len hs]; omega)) (Sg.ckey hs)) rfl ?_ -- t20
    refine WL.y (Yl.field fo34_4 rfl) rfl ?_ -- t21
    refine WL.sto (Sto.agg sz31 rfl rfl (by repeat (first | exact Take1.head | apply Take1.tail)) (ints_one _ _) (by rw [ints_length, hs.kl]) (fitLe (by rw [Sg.len2 hs.il (by first | exact hs.kl | rfl)]; omega)) (Sg.pkey (s := (Sg.mk s.kind s.id s.ca s.cd s.ce zero32 0 none 0 [] 0)) hs.il rfl s.key)) (fun _ h => nomatch h) ?_ -- st 4
    refine WL.nil ?_
    refine WC.midK [(36, .bool (decide (7 < s.ca) || decide (3 < s.cd) || decide (7 < s.ce)))] [blkR b3 34 (Sg.mk s.kind s.id s.ca s.cd s.ce s.key 0 none 0 [] 0).cells, blkR b1 34 s.cells] ?_ ?_
    · refine WC.region ?_
      refine WL.y (Yl.field fo34_2 rfl) rfl ?_ -- t22
      refine WL.y (Yl.field fo29_0 rfl) rfl ?_ -- t23
      refine WL.y (Yl.load on5 rfl (by repeat (first | exact Take1.head | apply Take1.tail)) (Sg.c17 hs)) rfl ?_ -- t24
      refine WL.y (Yl.gtr rfl rfl) rfl ?_ -- t25
      refine WL.y (Yl.move rfl) rfl ?_ -- t26
      refine WL.both (t := 26) rfl (fun g26 => ?_) (fun g26 => ?_)
      · refine WL.off rfl rfl rfl rfl ?_ -- t27
        refine WL.off rfl rfl rfl rfl ?_ -- t28
        refine WL.off rfl rfl rfl rfl ?_ -- t29
        refine WL.off rfl rfl rfl rfl ?_ -- t30
        refine WL.y (Yl.pickT rfl rfl) rfl ?_ -- t31
        refine WL.y (Yl.move rfl) rfl ?_ -- t32
        refine WL.off rfl rfl rfl rfl ?_ -- t33
        refine WL.off rfl rfl rfl rfl ?_ -- t34
        refine WL.off rfl rfl rfl rfl ?_ -- t35
        refine WL.y (Yl.pickT rfl rfl) rfl ?_ -- t36
        refine WL.say (t := 36) (v' := .bool (decide (7 < s.ca) || decide (3 < s.cd) || decide (7 < s.ce))) rfl (by (refine congrArg Value.bool ?_; simp_all <;> omega)) ?_
        refine WL.nil ?_
        exact ⟨rfl, (by repeat (first | exact Sub.nil | refine Sub.cons rfl ?_)), (by repeat (first | exact Sub.nil | refine Sub.cons rfl ?_)), _, (by repeat (first | exact TakeL.nil | (apply TakeL.cons; · repeat (first | exact Take1.head | apply Take1.tail))))⟩
      · refine WL.on rfl rfl ?_
        refine WL.y (Yl.field fo34_2 rfl) rfl ?_ -- t27
        refine WL.on rfl rfl ?_
        refine WL.y (Yl.field fo29_1 rfl) rfl ?_ -- t28
        refine WL.on rfl rfl ?_
        refine WL.y (Yl.load on5 rfl (by repeat (first | exact Take1.head | apply Take1.tail)) (Sg.c18 hs)) rfl ?_ -- t29
        refine WL.on rfl rfl ?_
        refine WL.y (Yl.gtr rfl rfl) rfl ?_ -- t30
        refine WL.y (Yl.pickF rfl rfl) rfl ?_ -- t31
        refine WL.y (Yl.move rfl) rfl ?_ -- t32
        refine WL.both (t := 32) rfl (fun g32 => ?_) (fun g32 => ?_)
        · refine WL.off rfl rfl rfl rfl ?_ -- t33
          refine WL.off rfl rfl rfl rfl ?_ -- t34
          refine WL.off rfl rfl rfl rfl ?_ -- t35
          refine WL.y (Yl.pickT rfl rfl) rfl ?_ -- t36
          refine WL.say (t := 36) (v' := .bool (decide (7 < s.ca) || decide (3 < s.cd) || decide (7 < s.ce))) rfl (by (refine congrArg Value.bool ?_; simp_all <;> omega)) ?_
          refine WL.nil ?_
          exact ⟨rfl, (by repeat (first | exact Sub.nil | refine Sub.cons rfl ?_)), (by repeat (first | exact Sub.nil | refine Sub.cons rfl ?_)), _, (by repeat (first | exact TakeL.nil | (apply TakeL.cons; · repeat (first | exact Take1.head | apply Take1.tail))))⟩
        · refine WL.on rfl rfl ?_
          refine WL.y (Yl.field fo34_3 rfl) rfl ?_ -- t33
          refine WL.on rfl rfl ?_
          refine WL.y (Yl.load on5 rfl (by repeat (first | exact Take1.head | apply Take1.tail)) (Sg.c19 hs)) rfl ?_ -- t34
          refine WL.on rfl rfl ?_
          refine WL.y (Yl.gtr rfl rfl) rfl ?_ -- t35
          refine WL.y (Yl.pickF rfl rfl) rfl ?_ -- t36
          refine WL.say (t := 36) (v' := .bool (decide (7 < s.ca) || decide (3 < s.cd) || decide (7 < s.ce))) rfl (by (refine congrArg Value.bool ?_; simp_all <;> omega)) ?_
          refine WL.nil ?_
          exact ⟨rfl, (by repeat (first | exact Sub.nil | refine Sub.cons rfl ?_)), (by repeat (first | exact Sub.nil | refine Sub.cons rfl ?_)), _, (by repeat (first | exact TakeL.nil | (apply TakeL.cons; · repeat (first | exact Take1.head | apply Take1.tail))))⟩
    · refine WC.cond rfl (fun g36 => ?_) (fun g36 => ?_)
      · refine WC.seq ?_
        refine WC.region ?_
        refine WL.y (Yl.assign rfl) rfl ?_ -- t2
        refine WL.nil ?_
        refine WC.ret ?_
        repeat (first | (with_reducible refine peelT ?_) | (with_reducible refine peelB ?_) | (with_reducible refine peelTX ?_) | (with_reducible refine peelBX ?_) | (with_reducible refine peelBN ?_) | (with_reducible refine peelBO rfl ?_))
        refine ret1 (.inr rfl) Try.results10 rfl fun w' h => ⟨(), trivial, ret_bool ?_, h.sub (by repeat (first | exact TakeL.nil | (apply TakeL.cons; · repeat (first | exact Take1.head | apply Take1.tail))))⟩
        rw [may_ref]
        clear h hw xs
        simp [*]
      · refine WC.skip ?_
        refine WC.seq ?_
        refine WC.region ?_
        refine WL.y (Yl.loadN ag34 rfl (by repeat (first | exact Take1.head | apply Take1.tail)) (fitLe (by rw [Sg.len hs]; omega)) (Sg.call hs)) rfl ?_ -- t70
        have hb : (Sg.mk s.kind s.id s.ca s.cd s.ce s.key 0 none 0 [] 0).ok := ⟨hs.kind, hs.il, hs.ib, hs.ca, hs.cd, hs.ce, hs.kl, hs.kb, z4, zd, z⟩
        refine WL.y (Yl.loadN ag34 rfl (by repeat (first | exact Take1.head | apply Take1.tail)) (fitLe (by rw [Sg.len hb]; omega)) (Sg.call hb)) rfl ?_ -- t71
        refine WL.callC (xs := [.tmp 70, .tmp 71]) (cap := []) rfl rfl en14 (by repeat (first | exact TakeL.nil | (apply TakeL.cons; · repeat (first | exact Take1.head | apply Take1.tail)))) (fun w hw => same_any s _ hs hb w (hw.srcS xs) RdS.nil8 hw.left.here) rfl ?_ -- t72 hailer/hailerref09.Same
        rintro ⟨⟩ -
        refine WL.y (Yl.assign rfl) rfl ?_ -- t2
        refine WL.nil ?_
        refine WC.ret ?_
        repeat (first | (with_reducible refine peelT ?_) | (with_reducible refine peelB ?_) | (with_reducible refine peelTX ?_) | (with_reducible refine peelBX ?_) | (with_reducible refine peelBN ?_) | (with_reducible refine peelBO rfl ?_))
        refine ret1 (.inr rfl) Try.results10 rfl fun w' h => ⟨(), trivial, ret_bool ?_, h.sub (by repeat (first | exact TakeL.nil | (apply TakeL.cons; · repeat (first | exact Take1.head | apply Take1.tail))))⟩
        rw [may_ref]
        clear h hw xs
        simp [*]
  · refine WC.seq ?_
    refine WC.region ?_
    refine WL.y (Yl.eql rfl rfl) rfl ?_ -- t38
    refine WL.y (Yl.assign rfl) rfl ?_ -- t37
    refine WL.nil ?_
    refine WC.condD rfl (fun g37 => ?_) (fun g37 => ?_)
    · refine WC.region ?_
      refine WL.y (Yl.field fo34_4 rfl) rfl ?_ -- t39
      refine WL.y (Yl.loadN ag31 rfl (by repeat (first | exact Take1.head | apply Take1.tail)) (fitLe (by rw [Sg.len hs]; omega)) (Sg.ckey hs)) rfl ?_ -- t40
      refine WL.y (Yl.field fo34_4 rfl) rfl ?_ -- t41
      refine WL.sto (Sto.agg sz31 rfl rfl (by repeat (first | exact Take1.head | apply Take1.tail)) (ints_one _ _) (by rw [ints_length, hs.kl]) (fitLe (by rw [Sg.len2 hs.il (by first | exact hs.kl | rfl)]; omega)) (Sg.pkey (s := (Sg.mk s.kind s.id 0 0 0 zero32 0 none 0 [] 0)) hs.il rfl s.key)) (fun _ h => nomatch h) ?_ -- st 5
      refine WL.nil ?_
      refine WC.seq ?_
      refine WC.region ?_
      refine WL.y (Yl.loadN ag34 rfl (by repeat (first | exact Take1.head | apply Take1.tail)) (fitLe (by rw [Sg.len hs]; omega)) (Sg.call hs)) rfl ?_ -- t70
      have hb : (Sg.mk s.kind s.id 0 0 0 s.key 0 none 0 [] 0).ok := ⟨hs.kind, hs.il, hs.ib, z, z, z, hs.kl, hs.kb, z4, zd, z⟩
      refine WL.y (Yl.loadN ag34 rfl (by repeat (first | exact Take1.head | apply Take1.tail)) (fitLe (by rw [Sg.len hb]; omega)) (Sg.call hb)) rfl ?_ -- t71
      refine WL.callC (xs := [.tmp 70, .tmp 71]) (cap := []) rfl rfl en14 (by repeat (first | exact TakeL.nil | (apply TakeL.cons; · repeat (first | exact Take1.head | apply Take1.tail)))) (fun w hw => same_any s _ hs hb w (hw.srcS xs) RdS.nil8 hw.left.here) rfl ?_ -- t72 hailer/hailerref09.Same
      rintro ⟨⟩ -
      refine WL.y (Yl.assign rfl) rfl ?_ -- t2
      refine WL.nil ?_
      refine WC.ret ?_
      repeat (first | (with_reducible refine peelT ?_) | (with_reducible refine peelB ?_) | (with_reducible refine peelTX ?_) | (with_reducible refine peelBX ?_) | (with_reducible refine peelBN ?_) | (with_reducible refine peelBO rfl ?_))
      refine ret1 (.inr rfl) Try.results10 rfl fun w' h => ⟨(), trivial, ret_bool ?_, h.sub (by repeat (first | exact TakeL.nil | (apply TakeL.cons; · repeat (first | exact Take1.head | apply Take1.tail))))⟩
      rw [may_ref]
      clear h hw xs
      simp [*]
    · refine WC.seq ?_
      refine WC.region ?_
      refine WL.y (Yl.eql rfl rfl) rfl ?_ -- t43
      refine WL.y (Yl.assign rfl) rfl ?_ -- t42
      refine WL.nil ?_
      refine WC.condD rfl (fun g42 => ?_) (fun g42 => ?_)
      · refine WC.seq ?_
        refine WC.region ?_
        refine WL.y (Yl.field fo34_5 rfl) rfl ?_ -- t44
        refine WL.y (Yl.load on32 rfl (by repeat (first | exact Take1.head | apply Take1.tail)) (Sg.c52 hs)) rfl ?_ -- t45
        refine WL.y (Yl.field fo34_5 rfl) rfl ?_ -- t46
        refine WL.sto (Sto.one sz32 rfl rfl (by repeat (first | exact Take1.head | apply Take1.tail)) rfl (fitLt (by rw [Sg.len2 hs.il (by first | exact hs.kl | rfl)]; omega)) (Sg.s52 (s := (Sg.mk s.kind s.id 0 0 0 zero32 0 none 0 [] 0)) hs.il rfl s.n)) (fun _ h => nomatch h) ?_
        refine WL.nil ?_
        refine WC.seq ?_
        refine WC.region ?_
        refine WL.y (Yl.field fo34_6 rfl) rfl ?_ -- t47
        refine WL.y (Yl.load on22 rfl (by repeat (first | exact Take1.head | apply Take1.tail)) (Sg.c53 hs)) rfl ?_ -- t48
        refine WL.y (Yl.field fo34_6 rfl) rfl ?_ -- t49
        refine WL.sto (Sto.one sz22 rfl rfl (by repeat (first | exact Take1.head | apply Take1.tail)) rfl (fitLt (by rw [Sg.len2 hs.il (by first | exact hs.kl | rfl)]; omega)) (Sg.s53 (s := (Sg.mk s.kind s.id 0 0 0 zero32 s.n none 0 [] 0)) hs.il rfl s.da s.dc s.data)) (fun _ h => nomatch h) ?_
        refine WL.nil ?_
        refine WC.seq ?_
        refine WC.region ?_
        refine WL.y (Yl.field fo34_6 rfl) rfl ?_ -- t50
        refine WL.y (Yl.load on22 rfl (by repeat (first | exact Take1.head | apply Take1.tail)) (Sg.c53 hs)) rfl ?_ -- t51
        refine WL.y (Yl.len un22 rfl) rfl ?_ -- t52
        refine WL.y (Yl.gtr rfl rfl) rfl ?_ -- t53
        refine WL.nil ?_
        refine WC.condD rfl (fun g53 => ?_) (fun g53 => ?_)
        · refine WC.seq ?_
          refine WC.region ?_
          refine WL.y (Yl.assign rfl) rfl ?_ -- t2
          refine WL.nil ?_
          refine WC.ret ?_
          repeat (first | (with_reducible refine peelT ?_) | (with_reducible refine peelB ?_) | (with_reducible refine peelTX ?_) | (with_reducible refine peelBX ?_) | (with_reducible refine peelBN ?_) | (with_reducible refine peelBO rfl ?_))
          refine ret1 (.inr rfl) Try.results10 rfl fun w' h => ⟨(), trivial, ret_bool ?_, h.sub (by repeat (first | exact TakeL.nil | (apply TakeL.cons; · repeat (first | exact Take1.head | apply Take1.tail))))⟩
          rw [may_ref]
          clear h hw xs
          simp [*]
        · refine WC.skip ?_
          refine WC.seq ?_
          refine WC.region ?_
          refine WL.y (Yl.loadN ag34 rfl (by repeat (first | exact Take1.head | apply Take1.tail)) (fitLe (by rw [Sg.len hs]; omega)) (Sg.call hs)) rfl ?_ -- t70
          have hb : (Sg.mk s.kind s.id 0 0 0 zero32 s.n s.da s.dc s.data 0).ok := ⟨hs.kind, hs.il, hs.ib, z, z, z, zk.1, zk.2, hs.n, hs.db, z⟩
          refine WL.y (Yl.loadN ag34 rfl (by repeat (first | exact Take1.head | apply Take1.tail)) (fitLe (by rw [Sg.len hb]; omega)) (Sg.call hb)) rfl ?_ -- t71
          refine WL.callC (xs := [.tmp 70, .tmp 71]) (cap := []) rfl rfl en14 (by repeat (first | exact TakeL.nil | (apply TakeL.cons; · repeat (first | exact Take1.head | apply Take1.tail)))) (fun w hw => same_any s _ hs hb w (hw.srcS xs) (hw.srcS xs) hw.left.here) rfl ?_ -- t72 hailer/hailerref09.Same
          rintro ⟨⟩ -
          refine WL.y (Yl.assign rfl) rfl ?_ -- t2
          refine WL.nil ?_
          refine WC.ret ?_
          repeat (first | (with_reducible refine peelT ?_) | (with_reducible refine peelB ?_) | (with_reducible refine peelTX ?_) | (with_reducible refine peelBX ?_) | (with_reducible refine peelBN ?_) | (with_reducible refine peelBO rfl ?_))
          refine ret1 (.inr rfl) Try.results10 rfl fun w' h => ⟨(), trivial, ret_bool ?_, h.sub (by repeat (first | exact TakeL.nil | (apply TakeL.cons; · repeat (first | exact Take1.head | apply Take1.tail))))⟩
          rw [may_ref]
          clear h hw xs
          simp [*]
      · refine WC.seq ?_
        refine WC.seq ?_
        refine WC.region ?_
        refine WL.y (Yl.eql rfl rfl) rfl ?_ -- t55
        refine WL.y (Yl.assign rfl) rfl ?_ -- t54
        refine WL.nil ?_
        refine WC.condD rfl (fun g54 => ?_) (fun g54 => ?_)
        · refine WC.skip ?_
          refine WC.condT rfl (by first | rfl | (simp; done) | (simp; omega)) ?_
          refine WC.skip ?_
          refine WC.seq ?_
          refine WC.region ?_
          refine WL.y (Yl.loadN ag34 rfl (by repeat (first | exact Take1.head | apply Take1.tail)) (fitLe (by rw [Sg.len hs]; omega)) (Sg.call hs)) rfl ?_ -- t70
          have hb : (Sg.mk s.kind s.id 0 0 0 zero32 0 none 0 [] 0).ok := ⟨hs.kind, hs.il, hs.ib, z, z, z, zk.1, zk.2, z4, zd, z⟩
          refine WL.y (Yl.loadN ag34 rfl (by repeat (first | exact Take1.head | apply Take1.tail)) (fitLe (by rw [Sg.len hb]; omega)) (Sg.call hb)) rfl ?_ -- t71
          refine WL.callC (xs := [.tmp 70, .tmp 71]) (cap := []) rfl rfl en14 (by repeat (first | exact TakeL.nil | (apply TakeL.cons; · repeat (first | exact Take1.head | apply Take1.tail)))) (fun w hw => same_any s _ hs hb w (hw.srcS xs) RdS.nil8 hw.left.here) rfl ?_ -- t72 hailer/hailerref09.Same
          rintro ⟨⟩ -
          refine WL.y (Yl.assign rfl) rfl ?_ -- t2
          refine WL.nil ?_
          refine WC.ret ?_
          repeat (first | (with_reducible refine peelT ?_) | (with_reducible refine peelB ?_) | (with_reducible refine peelTX ?_) | (with_reducible refine peelBX ?_) | (with_reducible refine peelBN ?_) | (with_reducible refine peelBO rfl ?_))
          refine ret1 (.inr rfl) Try.results10 rfl fun w' h => ⟨(), trivial, ret_bool ?_, h.sub (by repeat (first | exact TakeL.nil | (apply TakeL.cons; · repeat (first | exact Take1.head | apply Take1.tail))))⟩
          rw [may_ref]
          clear h hw xs
          simp [*]
        · refine WC.region ?_
          refine WL.y (Yl.eql rfl rfl) rfl ?_ -- t56
          refine WL.y (Yl.assign rfl) rfl ?_ -- t54
          refine WL.nil ?_
          refine WC.condD rfl (fun g54 => ?_) (fun g54 => ?_)
          · refine WC.skip ?_
            refine WC.seq ?_
            refine WC.region ?_
            refine WL.y (Yl.loadN ag34 rfl (by repeat (first | exact Take1.head | apply Take1.tail)) (fitLe (by rw [Sg.len hs]; omega)) (Sg.call hs)) rfl ?_ -- t70
            have hb : (Sg.mk s.kind s.id 0 0 0 zero32 0 none 0 [] 0).ok := ⟨hs.kind, hs.il, hs.ib, z, z, z, zk.1, zk.2, z4, zd, z⟩
            refine WL.y (Yl.loadN ag34 rfl (by repeat (first | exact Take1.head | apply Take1.tail)) (fitLe (by rw [Sg.len hb]; omega)) (Sg.call hb)) rfl ?_ -- t71
            refine WL.callC (xs := [.tmp 70, .tmp 71]) (cap := []) rfl rfl en14 (by repeat (first | exact TakeL.nil | (apply TakeL.cons; · repeat (first | exact Take1.head | apply Take1.tail)))) (fun w hw => same_any s _ hs hb w (hw.srcS xs) RdS.nil8 hw.left.here) rfl ?_ -- t72 hailer/hailerref09.Same
            rintro ⟨⟩ -
            refine WL.y (Yl.assign rfl) rfl ?_ -- t2
            refine WL.nil ?_
            refine WC.ret ?_
            repeat (first | (with_reducible refine peelT ?_) | (with_reducible refine peelB ?_) | (with_reducible refine peelTX ?_) | (with_reducible refine peelBX ?_) | (with_reducible refine peelBN ?_) | (with_reducible refine peelBO rfl ?_))
            refine ret1 (.inr rfl) Try.results10 rfl fun w' h => ⟨(), trivial, ret_bool ?_, h.sub (by repeat (first | exact TakeL.nil | (apply TakeL.cons; · repeat (first | exact Take1.head | apply Take1.tail))))⟩
            rw [may_ref]
            clear h hw xs
            simp [*]
          · refine WC.seq ?_
            refine WC.region ?_
            refine WL.y (Yl.eql rfl rfl) rfl ?_ -- t58
            refine WL.y (Yl.assign rfl) rfl ?_ -- t57
            refine WL.nil ?_
            refine WC.condD rfl (fun g57 => ?_) (fun g57 => ?_)
            · refine WC.seq ?_
              refine WC.region ?_
              refine WL.y (Yl.field fo34_7 rfl) rfl ?_ -- t59
              refine WL.y (Yl.load on5 rfl (by repeat (first | exact Take1.head | apply Take1.tail)) (Sg.c54 hs)) rfl ?_ -- t60
              refine WL.y (Yl.field fo34_7 rfl) rfl ?_ -- t61
              refine WL.sto (Sto.one sz5 rfl rfl (by repeat (first | exact Take1.head | apply Take1.tail)) rfl (fitLt (by rw [Sg.len2 hs.il (by first | exact hs.kl | rfl)]; omega)) (Sg.s54 (s := (Sg.mk s.kind s.id 0 0 0 zero32 0 none 0 [] 0)) hs.il rfl s.rs)) (fun _ h => nomatch h) ?_
              refine WL.nil ?_
              refine WC.seq ?_
              refine WC.region ?_
              refine WL.y (Yl.field fo34_7 rfl) rfl ?_ -- t62
              refine WL.y (Yl.load on5 rfl (by repeat (first | exact Take1.head | apply Take1.tail)) (Sg.c54 hs)) rfl ?_ -- t63
              refine WL.y (Yl.lss rfl rfl) rfl ?_ -- t64
              refine WL.y (Yl.move rfl) rfl ?_ -- t65
              refine WL.both (t := 65) rfl (fun g65 => ?_) (fun g65 => ?_)
              · refine WL.off rfl rfl rfl rfl ?_ -- t66
                refine WL.off rfl rfl rfl rfl ?_ -- t67
                refine WL.off rfl rfl rfl rfl ?_ -- t68
                refine WL.y (Yl.pickT rfl rfl) rfl ?_ -- t69
                refine WL.nil ?_
                refine WC.condT rfl (by first | rfl | (simp; done) | (simp; omega)) ?_
                refine WC.seq ?_
                refine WC.region ?_
                refine WL.y (Yl.assign rfl) rfl ?_ -- t2
                refine WL.nil ?_
                refine WC.ret ?_
                repeat (first | (with_reducible refine peelT ?_) | (with_reducible refine peelB ?_) | (with_reducible refine peelTX ?_) | (with_reducible refine peelBX ?_) | (with_reducible refine peelBN ?_) | (with_reducible refine peelBO rfl ?_))
                refine ret1 (.inr rfl) Try.results10 rfl fun w' h => ⟨(), trivial, ret_bool ?_, h.sub (by repeat (first | exact TakeL.nil | (apply TakeL.cons; · repeat (first | exact Take1.head | apply Take1.tail))))⟩
                rw [may_ref]
                clear h hw xs
                simp [*]
              · refine WL.on rfl rfl ?_
                refine WL.y (Yl.field fo34_7 rfl) rfl ?_ -- t66
                refine WL.on rfl rfl ?_
                refine WL.y (Yl.load on5 rfl (by repeat (first | exact Take1.head | apply Take1.tail)) (Sg.c54 hs)) rfl ?_ -- t67
                refine WL.on rfl rfl ?_
                refine WL.y (Yl.gtr rfl rfl) rfl ?_ -- t68
                refine WL.y (Yl.pickF rfl rfl) rfl ?_ -- t69
                refine WL.nil ?_
                refine WC.condD rfl (fun g69 => ?_) (fun g69 => ?_)
                · refine WC.seq ?_
                  refine WC.region ?_
                  refine WL.y (Yl.assign rfl) rfl ?_ -- t2
                  refine WL.nil ?_
                  refine WC.ret ?_
                  repeat (first | (with_reducible refine peelT ?_) | (with_reducible refine peelB ?_) | (with_reducible refine peelTX ?_) | (with_reducible refine peelBX ?_) | (with_reducible refine peelBN ?_) | (with_reducible refine peelBO rfl ?_))
                  refine ret1 (.inr rfl) Try.results10 rfl fun w' h => ⟨(), trivial, ret_bool ?_, h.sub (by repeat (first | exact TakeL.nil | (apply TakeL.cons; · repeat (first | exact Take1.head | apply Take1.tail))))⟩
                  rw [may_ref]
                  clear h hw xs
                  simp [*]
                · refine WC.skip ?_
                  refine WC.seq ?_
                  refine WC.region ?_
                  refine WL.y (Yl.loadN ag34 rfl (by repeat (first | exact Take1.head | apply Take1.tail)) (fitLe (by rw [Sg.len hs]; omega)) (Sg.call hs)) rfl ?_ -- t70
                  have hb : (Sg.mk s.kind s.id 0 0 0 zero32 0 none 0 [] s.rs).ok := ⟨hs.kind, hs.il, hs.ib, z, z, z, zk.1, zk.2, z4, zd, hs.rs⟩
                  refine WL.y (Yl.loadN ag34 rfl (by repeat (first | exact Take1.head | apply Take1.tail)) (fitLe (by rw [Sg.len hb]; omega)) (Sg.call hb)) rfl ?_ -- t71
                  refine WL.callC (xs := [.tmp 70, .tmp 71]) (cap := []) rfl rfl en14 (by repeat (first | exact TakeL.nil | (apply TakeL.cons; · repeat (first | exact Take1.head | apply Take1.tail)))) (fun w hw => same_any s _ hs hb w (hw.srcS xs) RdS.nil8 hw.left.here) rfl ?_ -- t72 hailer/hailerref09.Same
                  rintro ⟨⟩ -
                  refine WL.y (Yl.assign rfl) rfl ?_ -- t2
                  refine WL.nil ?_
                  refine WC.ret ?_
                  repeat (first | (with_reducible refine peelT ?_) | (with_reducible refine peelB ?_) | (with_reducible refine peelTX ?_) | (with_reducible refine peelBX ?_) | (with_reducible refine peelBN ?_) | (with_reducible refine peelBO rfl ?_))
                  refine ret1 (.inr rfl) Try.results10 rfl fun w' h => ⟨(), trivial, ret_bool ?_, h.sub (by repeat (first | exact TakeL.nil | (apply TakeL.cons; · repeat (first | exact Take1.head | apply Take1.tail))))⟩
                  rw [may_ref]
                  clear h hw xs
                  simp [*]
            · refine WC.seq ?_
              refine WC.region ?_
              refine WL.y (Yl.assign rfl) rfl ?_ -- t2
              refine WL.nil ?_
              refine WC.ret ?_
              repeat (first | (with_reducible refine peelT ?_) | (with_reducible refine peelB ?_) | (with_reducible refine peelTX ?_) | (with_reducible refine peelBX ?_) | (with_reducible refine peelBN ?_) | (with_reducible refine peelBO rfl ?_))
              refine ret1 (.inr rfl) Try.results10 rfl fun w' h => ⟨(), trivial, ret_bool ?_, h.sub (by repeat (first | exact TakeL.nil | (apply TakeL.cons; · repeat (first | exact Take1.head | apply Take1.tail))))⟩
              rw [may_ref]
              clear h hw xs
              simp [*]
end Go.Proofs.Ytnmeoleahcnnkaa
