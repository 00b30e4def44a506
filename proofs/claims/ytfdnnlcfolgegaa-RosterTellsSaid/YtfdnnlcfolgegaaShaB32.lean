/- A block taken in: the walk, of words of 32 bits. -/
import Derived.Test.YtfdnnlcfolgegaaShaA32
namespace Go.Proofs.Ytfdnnlcfolgegaa
open Go Go.RowKit

set_option maxRecDepth 100000 in
theorem block32_any (m : Nat) (ho ko : Option Addr) (hc kc : Nat) (T : Tn) (hT : T.ok 32) (H ks bs : List Int) (v : Value) (hH : H.length = 8) (hks : ks.length = 64) (hbs : bs.length = 16 * 4) (w : World)
    (hm : BlkS w (fpL [ownR (.slice ho 8 hc) 103 1 8 (ints .u32 H)]) m 121 (mC (.slice ho 8 hc) (.slice ko 64 kc) 4 T)) (hk : RdS w (fpL [ownR (.slice ho 8 hc) 103 1 8 (ints .u32 H)]) (.slice ko 64 kc) 1 64 (ints .u32 ks))
    (hx : RdS w (fpL [ownR (.slice ho 8 hc) 103 1 8 (ints .u32 H)]) v 1 bs.length (ints .u8 bs)) (hw : OK w (fpL [ownR (.slice ho 8 hc) 103 1 8 (ints .u32 H)]) [ownR (.slice ho 8 hc) 103 1 8 (ints .u32 H)] w) :
    Fn Try.prog 80 [.pointer (some ⟨m, 0, none⟩), v] [ownR (.slice ho 8 hc) 103 1 8 (ints .u32 H)] w (fun _ : Unit => True) (fun _ => .tuple #[]) (fun _ => [ownR (.slice ho 8 hc) 103 1 8 (ints .u32 (blockF .u32 32 4 64 T ks H bs))]) := by
  obtain ⟨al, cl, rfl, hcl, hml⟩ := hx.rd.form
  have hT1 := hT.1
  have hT2 := hT.2.1
  have hT3 := hT.2.2.1
  have hT4 := hT.2.2.2
  refine enterF Try.func80 rfl Try.ntmps80 rfl hw ?_
  refine WC.seq ?_
  refine WC.region ?_
  refine WL.y (Yl.move rfl) rfl ?_ -- t17
  refine WL.y (Yl.nilCheck rfl) rfl ?_ -- t18
  refine WL.y (Yl.field fo121_1 rfl) rfl ?_ -- t19
  refine WL.y (Yl.loadS on115 rfl hm (by rfl)) rfl ?_ -- t20
  refine WL.y (Yl.len un115 rfl) rfl ?_ -- t21
  refine WL.to (To.makeSlice un115 zb115_103 rfl rfl rfl (by omega) (by unfold maxLen; omega)) rfl ?_ -- t22
  intro b22
  refine WL.y (Yl.assign rfl) rfl ?_ -- t4
  refine WL.nil ?_
  refine WC.seq ?_
  refine WC.seq ?_
  refine WC.region ?_
  refine WL.y (Yl.move rfl) rfl ?_ -- t23
  refine WL.y (Yl.len un53 rfl) rfl ?_ -- t24
  refine WL.y (Yl.move rfl) rfl ?_ -- t25
  refine WL.nil ?_
  refine WC.block ?_
  refine WC.view (fun w h => h.blkOwn (b := b22) (size := 1) (n := 64) (by repeat (first | exact Take1.head | apply Take1.tail)) (by unfold maxLen; omega) rfl) ?_
  rw [show List.replicate 64 (Value.int .u32 0) = ints .u32 (ldF .u32 4 64 bs 0) by simp [ldF, ints]]
  refine WC.loop (α := Nat) (fun j => [(0, .pointer (some ⟨m, 0, none⟩)), (1, .slice al bs.length cl), (4, .slice (some ⟨b22, 0, none⟩) 64 64), (24, .int .i64 (bs.length : Int)), (25, .int .i64 (j : Int))]) (fun j => [ownR (.slice (some ⟨b22, 0, none⟩) 64 64) 103 1 64 (ints .u32 (ldF .u32 4 64 bs j)), ownR (.slice ho 8 hc) 103 1 8 (ints .u32 H)]) (fun j => j ≤ bs.length) (fun j => bs.length - j) 0 (Nat.zero_le _) ⟨(by repeat (first | exact Sub.nil | refine Sub.cons rfl ?_)), _, (by repeat (first | exact TakeL.nil | (apply TakeL.cons; · repeat (first | exact Take1.head | apply Take1.tail))))⟩ ?_
  intro j hj
  have hll := ldF_len .u32 4 64 bs j
  refine WC.seq ?_
  refine WC.region ?_
  refine WL.y (Yl.lss rfl rfl) rfl ?_ -- t26
  refine WL.nil ?_
  refine WC.seq ?_
  refine WC.condD rfl (fun g26 => ?_) (fun g26 => ?_)
  · refine WC.skip ?_
    refine WC.seq ?_
    refine WC.block ?_
    refine WC.seq ?_
    refine WC.region ?_
    refine WL.y (Yl.move rfl) rfl ?_ -- t27
    refine WL.y (Yl.assign rfl) rfl ?_ -- t5
    refine WL.nil ?_
    refine WC.drawTail 24 mixed (by kernel_rfl) ?_
    refine WH.y (Yl.move rfl) rfl ?_ -- t28
    refine WH.y (Yl.move rfl) rfl ?_ -- t29
    refine WH.y (Yl.move rfl) rfl ?_ -- t30
    refine WH.y (Yl.nilCheck rfl) rfl ?_ -- t31
    refine WH.y (Yl.field fo121_2 rfl) rfl ?_ -- t32
    refine WH.y (Yl.loadS on3 rfl hm (by rfl)) rfl ?_ -- t33
    refine WH.y (Yl.quo rfl rfl (by omega) (i64_quo (by omega) (by omega))) rfl ?_ -- t34
    refine WH.say (t := 34) (v' := .int .i64 ((j / 4 : Nat) : Int)) rfl (by (refine congrArg _ ?_; omega)) ?_
    refine WH.y (Yl.move rfl) rfl ?_ -- t35
    refine WH.y (Yl.move rfl) rfl ?_ -- t36
    refine WH.y (Yl.move rfl) rfl ?_ -- t37
    refine WH.y (Yl.nilCheck rfl) rfl ?_ -- t38
    refine WH.y (Yl.field fo121_2 rfl) rfl ?_ -- t39
    refine WH.y (Yl.loadS on3 rfl hm (by rfl)) rfl ?_ -- t40
    refine WH.y (Yl.quo rfl rfl (by omega) (i64_quo (by omega) (by omega))) rfl ?_ -- t41
    refine WH.say (t := 41) (v' := .int .i64 ((j / 4 : Nat) : Int)) rfl (by (refine congrArg _ ?_; omega)) ?_
    refine WH.y (Yl.index un115 sz103 rfl rfl (Reads.of RdOf.own (by repeat (first | exact Take1.head | apply Take1.tail))) rfl (by omega)) rfl ?_ -- t42
    refine WH.y (Yl.loadE on103 rfl (Reads.of RdOf.own (by repeat (first | exact Take1.head | apply Take1.tail))) (ints_get _ _ (j / 4) (by rw [hll]; omega))) rfl ?_ -- t43
    refine WH.y (Yl.shl rfl rfl ⟨by omega, (by simp [IntKind.bits]; try omega)⟩ rfl) rfl ?_ -- t44
    refine WH.y (Yl.move rfl) rfl ?_ -- t45
    refine WH.y (Yl.move rfl) rfl ?_ -- t46
    refine WH.y (Yl.index un53 sz5 rfl rfl (Reads.s hx) rfl (by omega)) rfl ?_ -- t47
    refine WH.y (Yl.loadE on5 rfl (Reads.s hx) (ints_get .u8 bs j (by omega))) rfl ?_ -- t48
    refine WH.y (Yl.conv un5 un103 rfl rfl) rfl ?_ -- t49
    refine WH.y (Yl.or rfl rfl) rfl ?_ -- t50
    refine WH.y (Yl.index un115 sz103 rfl rfl (Reads.of RdOf.own (by repeat (first | exact Take1.head | apply Take1.tail))) rfl (by omega)) rfl ?_ -- t51
    refine WH.nil ?_
    refine WP.sto (Sto.elem sz103 rfl rfl (by repeat (first | exact Take1.head | apply Take1.tail)) rfl (by omega) (by rfl)) (fun _ h => nomatch h) ?_ -- st 1
    refine WP.nil ?_
    refine WC.region ?_
    refine WL.y (Yl.add rfl rfl (IntWalk.i64_in _ (by omega))) rfl ?_ -- t52
    refine WL.y (Yl.move rfl) rfl ?_ -- t25
    refine WL.nil ?_
    rw [ints_set]
    exact ⟨rfl, j + 1, by omega, by omega, (by repeat (first | exact Sub.nil | refine Sub.cons rfl ?_)), _, (by repeat (first | exact TakeL.nil | (apply TakeL.cons; · repeat (first | exact Take1.head | apply Take1.tail))))⟩
  · refine WC.exit ?_
    refine WC.seq ?_
    refine WC.seq ?_
    refine WC.region ?_
    refine WL.y (Yl.assign rfl) rfl ?_ -- t6
    refine WL.nil ?_
    refine WC.block ?_
    have hj2 : j = bs.length := by omega
    subst hj2
    obtain ⟨ws, hws⟩ : ∃ ws, ldF .u32 4 64 bs bs.length = ws := ⟨_, rfl⟩
    rw [hws] at hll ⊢
    refine WC.loop (α := Nat) (fun j => [(0, .pointer (some ⟨m, 0, none⟩)), (4, .slice (some ⟨b22, 0, none⟩) 64 64), (6, .int .i64 ((16 + j : Nat) : Int))]) (fun j => [ownR (.slice (some ⟨b22, 0, none⟩) 64 64) 103 1 64 (ints .u32 (exF .u32 32 T ws j)), ownR (.slice ho 8 hc) 103 1 8 (ints .u32 H)]) (fun j => j ≤ 64 - 16) (fun j => 64 - 16 - j) 0 (Nat.zero_le _) ⟨(by repeat (first | exact Sub.nil | refine Sub.cons rfl ?_)), _, (by repeat (first | exact TakeL.nil | (apply TakeL.cons; · repeat (first | exact Take1.head | apply Take1.tail))))⟩ ?_
    intro j hj
    have hel := exF_len .u32 32 T ws j
    rw [hll] at hel
    refine WC.seq ?_
    refine WC.seq ?_
    refine WC.region ?_
    refine WL.y (Yl.move rfl) rfl ?_ -- t53
    refine WL.y (Yl.move rfl) rfl ?_ -- t54
    refine WL.y (Yl.len un115 rfl) rfl ?_ -- t55
    refine WL.y (Yl.lss rfl rfl) rfl ?_ -- t56
    refine WL.nil ?_
    refine WC.condD rfl (fun g56 => ?_) (fun g56 => ?_)
    · refine WC.skip ?_
      refine WC.seq ?_
      refine WC.block ?_
      have hself := hole_self (k := .u32) (L := exF .u32 32 T ws j) (t := 16 + j) (by omega)
      refine WC.drawI (Hs := [holeR (.slice (some ⟨b22, 0, none⟩) 64 64) 103 64 (ints .u32 (exF .u32 32 T ws j)) (16 + j)]) mixed (by kernel_rfl) (holeI (by repeat (first | exact Take1.head | apply Take1.tail)) (by first | exact hself | exact ⟨_, rfl⟩)) ?_
      refine WD.take 0 rfl (by kernel_rfl) (by kernel_rfl) (by kernel_rfl) rfl rfl (Yl.move rfl) rfl ?_ -- t59
      refine WD.take 1 rfl (by kernel_rfl) (by kernel_rfl) (by kernel_rfl) rfl rfl (Yl.move rfl) rfl ?_ -- t60
      refine WD.take 2 rfl (by kernel_rfl) (by kernel_rfl) (by kernel_rfl) rfl rfl (Yl.move rfl) rfl ?_ -- t61
      refine WD.take 3 rfl (by kernel_rfl) (by kernel_rfl) (by kernel_rfl) rfl rfl (Yl.move rfl) rfl ?_ -- t62
      refine WD.take 4 rfl (by kernel_rfl) (by kernel_rfl) (by kernel_rfl) rfl rfl (Yl.move rfl) rfl ?_ -- t63
      refine WD.take 5 rfl (by kernel_rfl) (by kernel_rfl) (by kernel_rfl) rfl rfl (Yl.sub rfl rfl (IntWalk.i64_in _ (by omega))) rfl ?_ -- t64
      refine WD.take 6 rfl (by kernel_rfl) (by kernel_rfl) (by kernel_rfl) rfl rfl (Yl.indexV (j := 14 + j) un115 sz103 rfl rfl (by omega) (by omega)) rfl ?_
      refine WD.take 7 rfl (by kernel_rfl) (by kernel_rfl) (by kernel_rfl) rfl rfl (Yl.loadH on103 rfl (by repeat (first | exact Take1.head | apply Take1.tail)) (ints_get _ _ (14 + j) (by omega)) (by omega)) rfl ?_
      refine WD.take 8 rfl (by kernel_rfl) (by kernel_rfl) (by kernel_rfl) rfl rfl (Yl.move rfl) rfl ?_ -- t67
      refine WD.take 9 rfl (by kernel_rfl) (by kernel_rfl) (by kernel_rfl) rfl rfl (Yl.nilCheck rfl) rfl ?_ -- t68
      refine WD.take 10 rfl (by kernel_rfl) (by kernel_rfl) (by kernel_rfl) rfl rfl (Yl.field fo121_3 rfl) rfl ?_ -- t69
      refine WD.take 11 rfl (by kernel_rfl) (by kernel_rfl) (by kernel_rfl) rfl rfl (Yl.field fo119_3 rfl) rfl ?_ -- t70
      refine WD.take 12 rfl (by kernel_rfl) (by kernel_rfl) (by kernel_rfl) rfl rfl (Yl.loadNS ag117 rfl hm (by rfl) (show _ = three T.v1 T.v2 T.v3 from rfl)) rfl ?_ -- t71
      refine WD.take 14 rfl (by kernel_rfl) (by kernel_rfl) (by kernel_rfl) rfl rfl (Yl.move rfl) rfl ?_ -- t73
      refine WD.take 15 rfl (by kernel_rfl) (by kernel_rfl) (by kernel_rfl) rfl rfl (Yl.move rfl) rfl ?_ -- t74
      refine WD.take 16 rfl (by kernel_rfl) (by kernel_rfl) (by kernel_rfl) rfl rfl (Yl.sub rfl rfl (IntWalk.i64_in _ (by omega))) rfl ?_ -- t75
      refine WD.take 17 rfl (by kernel_rfl) (by kernel_rfl) (by kernel_rfl) rfl rfl (Yl.indexV (j := 9 + j) un115 sz103 rfl rfl (by omega) (by omega)) rfl ?_
      refine WD.take 18 rfl (by kernel_rfl) (by kernel_rfl) (by kernel_rfl) rfl rfl (Yl.loadH on103 rfl (by repeat (first | exact Take1.head | apply Take1.tail)) (ints_get _ _ (9 + j) (by omega)) (by omega)) rfl ?_
      refine WD.take 20 rfl (by kernel_rfl) (by kernel_rfl) (by kernel_rfl) rfl rfl (Yl.move rfl) rfl ?_ -- t79
      refine WD.take 21 rfl (by kernel_rfl) (by kernel_rfl) (by kernel_rfl) rfl rfl (Yl.move rfl) rfl ?_ -- t80
      refine WD.take 22 rfl (by kernel_rfl) (by kernel_rfl) (by kernel_rfl) rfl rfl (Yl.move rfl) rfl ?_ -- t81
      refine WD.take 23 rfl (by kernel_rfl) (by kernel_rfl) (by kernel_rfl) rfl rfl (Yl.sub rfl rfl (IntWalk.i64_in _ (by omega))) rfl ?_ -- t82
      refine WD.take 24 rfl (by kernel_rfl) (by kernel_rfl) (by kernel_rfl) rfl rfl (Yl.indexV (j := 1 + j) un115 sz103 rfl rfl (by omega) (by omega)) rfl ?_
      refine WD.take 25 rfl (by kernel_rfl) (by kernel_rfl) (by kernel_rfl) rfl rfl (Yl.loadH on103 rfl (by repeat (first | exact Take1.head | apply Take1.tail)) (ints_get _ _ (1 + j) (by omega)) (by omega)) rfl ?_
      refine WD.take 26 rfl (by kernel_rfl) (by kernel_rfl) (by kernel_rfl) rfl rfl (Yl.move rfl) rfl ?_ -- t85
      refine WD.take 27 rfl (by kernel_rfl) (by kernel_rfl) (by kernel_rfl) rfl rfl (Yl.nilCheck rfl) rfl ?_ -- t86
      refine WD.take 28 rfl (by kernel_rfl) (by kernel_rfl) (by kernel_rfl) rfl rfl (Yl.field fo121_3 rfl) rfl ?_ -- t87
      refine WD.take 29 rfl (by kernel_rfl) (by kernel_rfl) (by kernel_rfl) rfl rfl (Yl.field fo119_2 rfl) rfl ?_ -- t88
      refine WD.take 30 rfl (by kernel_rfl) (by kernel_rfl) (by kernel_rfl) rfl rfl (Yl.loadNS ag117 rfl hm (by rfl) (show _ = three T.u1 T.u2 T.u3 from rfl)) rfl ?_ -- t89
      refine WD.take 33 rfl (by kernel_rfl) (by kernel_rfl) (by kernel_rfl) rfl rfl (Yl.move rfl) rfl ?_ -- t92
      refine WD.take 34 rfl (by kernel_rfl) (by kernel_rfl) (by kernel_rfl) rfl rfl (Yl.move rfl) rfl ?_ -- t93
      refine WD.take 35 rfl (by kernel_rfl) (by kernel_rfl) (by kernel_rfl) rfl rfl (Yl.sub rfl rfl (IntWalk.i64_in _ (by omega))) rfl ?_ -- t94
      refine WD.take 36 rfl (by kernel_rfl) (by kernel_rfl) (by kernel_rfl) rfl rfl (Yl.indexV (j := j) un115 sz103 rfl rfl (by omega) (by omega)) rfl ?_
      refine WD.take 37 rfl (by kernel_rfl) (by kernel_rfl) (by kernel_rfl) rfl rfl (Yl.loadH on103 rfl (by repeat (first | exact Take1.head | apply Take1.tail)) (ints_get _ _ j (by omega)) (by omega)) rfl ?_
      refine WD.one 13 (by kernel_rfl) ?_
      refine WO.callCI (xs := [.tmp 61, .tmp 66, .tmp 71]) (cap := []) rfl .no rfl rfl en83 (by repeat (first | exact TakeL.nil | (apply TakeL.cons; · repeat (first | exact Take1.head | apply Take1.tail)))) (fun w hw => small32_any m _ rfl _ T.v1 T.v2 T.v3 hT4.1 hT4.2.1 hT4.2.2 w (hw.srcBS (A := []) hm) hw.left.here) rfl (fun _ => (holeI (by repeat (first | exact Take1.head | apply Take1.tail)) (by first | exact hself | exact ⟨_, rfl⟩))) ?_ -- t72 (*hailer/sha.machine[uint32]).small
      rintro ⟨⟩ -
      refine WD.take 19 rfl (by kernel_rfl) (by kernel_rfl) (by kernel_rfl) rfl rfl (Yl.add rfl rfl rfl) rfl ?_ -- t78
      refine WD.one 31 (by kernel_rfl) ?_
      refine WO.callCI (xs := [.tmp 79, .tmp 84, .tmp 89]) (cap := []) rfl .no rfl rfl en83 (by repeat (first | exact TakeL.nil | (apply TakeL.cons; · repeat (first | exact Take1.head | apply Take1.tail)))) (fun w hw => small32_any m _ rfl _ T.u1 T.u2 T.u3 hT3.1 hT3.2.1 hT3.2.2 w (hw.srcBS (A := []) hm) hw.left.here) rfl (fun _ => (holeI (by repeat (first | exact Take1.head | apply Take1.tail)) (by first | exact hself | exact ⟨_, rfl⟩))) ?_ -- t90 (*hailer/sha.machine[uint32]).small
      rintro ⟨⟩ -
      refine WD.take 32 rfl (by kernel_rfl) (by kernel_rfl) (by kernel_rfl) rfl rfl (Yl.add rfl rfl rfl) rfl ?_ -- t91
      refine WD.take 38 rfl (by kernel_rfl) (by kernel_rfl) (by kernel_rfl) rfl rfl (Yl.add rfl rfl rfl) rfl ?_ -- t97
      refine WD.take 39 rfl (by kernel_rfl) (by kernel_rfl) (by kernel_rfl) rfl rfl (Yl.indexV (j := 16 + j) un115 sz103 rfl rfl (by omega) (by omega)) rfl ?_
      refine WD.one 40 (by kernel_rfl) ?_
      refine WO.stoI rfl rfl .no (Sto.elem sz103 rfl rfl (by repeat (first | exact Take1.head | apply Take1.tail)) rfl (by omega) (by rfl)) (holeI (by repeat (first | exact Take1.head | apply Take1.tail)) (by first | exact hself | exact ⟨_, rfl⟩)) ?_ -- st 2
      refine WD.done (by kernel_rfl) ?_
      refine WC.region ?_
      refine WL.y (Yl.move rfl) rfl ?_ -- t57
      refine WL.y (Yl.add rfl rfl (IntWalk.i64_in _ (by omega))) rfl ?_ -- t58
      refine WL.y (Yl.assign rfl) rfl ?_ -- t6
      refine WL.nil ?_
      rw [ints_set]
      exact ⟨rfl, j + 1, by omega, by omega, (by repeat (first | exact Sub.nil | refine Sub.cons rfl ?_)), _, (by repeat (first | exact TakeL.nil | (apply TakeL.cons; · repeat (first | exact Take1.head | apply Take1.tail))))⟩
    · refine WC.exit ?_
      refine WC.seq ?_
      refine WC.region ?_
      have hj2 : j = 64 - 16 := by omega
      subst hj2
      obtain ⟨W, hW⟩ : ∃ W, exF .u32 32 T ws (64 - 16) = W := ⟨_, rfl⟩
      rw [hW] at hel ⊢
      refine WL.to (To.alloc zr126 rfl) rfl ?_ -- t7
      intro b7
      refine WL.nil ?_
      refine WC.seq ?_
      refine WC.drawAny (Hs := []) mixed (by kernel_rfl) ⟨_, (by repeat (first | exact TakeL.nil | (apply TakeL.cons; · repeat (first | exact Take1.head | apply Take1.tail))))⟩ ?_
      refine WD.take 0 rfl (by kernel_rfl) (by kernel_rfl) (by kernel_rfl) rfl rfl (Yl.sliceArr un126 sz103 (by decide) rfl) rfl ?_ -- t99
      refine WD.take 1 rfl (by kernel_rfl) (by kernel_rfl) (by kernel_rfl) rfl rfl (Yl.move rfl) rfl ?_ -- t100
      refine WD.take 2 rfl (by kernel_rfl) (by kernel_rfl) (by kernel_rfl) rfl rfl (Yl.nilCheck rfl) rfl ?_ -- t101
      refine WD.take 3 rfl (by kernel_rfl) (by kernel_rfl) (by kernel_rfl) rfl rfl (Yl.field fo121_0 rfl) rfl ?_ -- t102
      refine WD.take 4 rfl (by kernel_rfl) (by kernel_rfl) (by kernel_rfl) rfl rfl (Yl.loadS on115 rfl hm (by rfl)) rfl ?_ -- t103
      refine WD.one 5 (by kernel_rfl) ?_
      refine WO.to rfl rfl .no (To.copy un115 sz103 rfl rfl (by repeat (first | exact Take1.head | apply Take1.tail)) (Reads.of RdOf.own (by repeat (first | exact Take1.head | apply Take1.tail))) (ints_one _ _) (by rfl) (copy8 hH rfl)) rfl (fun _ => ⟨_, (by repeat (first | exact TakeL.nil | (apply TakeL.cons; · repeat (first | exact Take1.head | apply Take1.tail))))⟩) ?_
      rintro ⟨⟩
      refine WD.done (by kernel_rfl) ?_
      refine WC.seq ?_
      refine WC.seq ?_
      refine WC.region ?_
      refine WL.y (Yl.move rfl) rfl ?_ -- t105
      refine WL.y (Yl.nilCheck rfl) rfl ?_ -- t106
      refine WL.y (Yl.field fo121_1 rfl) rfl ?_ -- t107
      refine WL.y (Yl.loadS on115 rfl hm (by rfl)) rfl ?_ -- t108
      refine WL.y (Yl.len un115 rfl) rfl ?_ -- t109
      refine WL.y (Yl.move rfl) rfl ?_ -- t110
      refine WL.nil ?_
      refine WC.block ?_
      refine WC.loop (α := Nat) (fun j => [(0, .pointer (some ⟨m, 0, none⟩)), (4, .slice (some ⟨b22, 0, none⟩) 64 64), (7, .pointer (some ⟨b7, 0, none⟩)), (108, .slice ko 64 kc), (109, .int .i64 64), (110, .int .i64 (j : Int))]) (fun j => [blkR b7 126 (ints .u32 (rsF .u32 32 T ks W H j)), ownR (.slice (some ⟨b22, 0, none⟩) 64 64) 103 1 64 (ints .u32 W), ownR (.slice ho 8 hc) 103 1 8 (ints .u32 H)]) (fun j => j ≤ 64) (fun j => 64 - j) 0 (Nat.zero_le _) ⟨(by repeat (first | exact Sub.nil | refine Sub.cons rfl ?_)), _, (by repeat (first | exact TakeL.nil | (apply TakeL.cons; · repeat (first | exact Take1.head | apply Take1.tail))))⟩ ?_
      intro j hj
      have hrl := rsF_len (k := .u32) (B := 32) (T := T) (ks := ks) (ws := W) hH j
      obtain ⟨x0, x1, x2, x3, x4, x5, x6, x7, hX⟩ := len8 hrl
      rw [hX]
      refine WC.seq ?_
      refine WC.region ?_
      refine WL.y (Yl.lss rfl rfl) rfl ?_ -- t111
      refine WL.nil ?_
      refine WC.seq ?_
      refine WC.condD rfl (fun g111 => ?_) (fun g111 => ?_)
      · refine WC.skip ?_
        refine WC.seq ?_
        refine WC.block ?_
        refine WC.seq ?_
        refine WC.region ?_
        refine WL.y (Yl.move rfl) rfl ?_ -- t112
        refine WL.y (Yl.index un115 sz103 rfl rfl (Reads.s hk) rfl (by omega)) rfl ?_ -- t113
        refine WL.y (Yl.loadE on103 rfl (Reads.s hk) (ints_get _ ks j (by omega))) rfl ?_ -- t114
        refine WL.y (Yl.assign rfl) rfl ?_ -- t8
        refine WL.y (Yl.assign rfl) rfl ?_ -- t9
        refine WL.nil ?_
        refine WC.seq ?_
        refine WC.drawRead mixed (by kernel_rfl) ?_
        refine WH.y (Yl.indexA (j := 0) un126 sz103 rfl rfl rfl (by omega)) rfl ?_ -- t115
        refine WH.y (Yl.load on103 rfl (by repeat (first | exact Take1.head | apply Take1.tail)) (by rfl)) rfl ?_ -- t116
        refine WH.y (Yl.indexA (j := 1) un126 sz103 rfl rfl rfl (by omega)) rfl ?_ -- t117
        refine WH.y (Yl.load on103 rfl (by repeat (first | exact Take1.head | apply Take1.tail)) (by rfl)) rfl ?_ -- t118
        refine WH.y (Yl.indexA (j := 2) un126 sz103 rfl rfl rfl (by omega)) rfl ?_ -- t119
        refine WH.y (Yl.load on103 rfl (by repeat (first | exact Take1.head | apply Take1.tail)) (by rfl)) rfl ?_ -- t120
        refine WH.y (Yl.indexA (j := 4) un126 sz103 rfl rfl rfl (by omega)) rfl ?_ -- t121
        refine WH.y (Yl.load on103 rfl (by repeat (first | exact Take1.head | apply Take1.tail)) (by rfl)) rfl ?_ -- t122
        refine WH.y (Yl.assign rfl) rfl ?_ -- t10
        refine WH.y (Yl.assign rfl) rfl ?_ -- t11
        refine WH.y (Yl.assign rfl) rfl ?_ -- t12
        refine WH.y (Yl.assign rfl) rfl ?_ -- t13
        refine WH.nil ?_
        refine WC.seq ?_
        refine WC.drawAny (Hs := [blkR b7 126 (ints .u32 [x0, x1, x2, x3, x4, x5, x6, x7]), ownR (.slice (some ⟨b22, 0, none⟩) 64 64) 103 1 64 (ints .u32 W)]) mixed (by kernel_rfl) ⟨_, (by repeat (first | exact TakeL.nil | (apply TakeL.cons; · repeat (first | exact Take1.head | apply Take1.tail))))⟩ ?_
        refine WD.take 0 rfl (by kernel_rfl) (by kernel_rfl) (by kernel_rfl) rfl rfl (Yl.indexA (j := 7) un126 sz103 rfl rfl rfl (by omega)) rfl ?_ -- t123
        refine WD.take 1 rfl (by kernel_rfl) (by kernel_rfl) (by kernel_rfl) rfl rfl (Yl.load on103 rfl (by repeat (first | exact Take1.head | apply Take1.tail)) (by rfl)) rfl ?_ -- t124
        refine WD.take 2 rfl (by kernel_rfl) (by kernel_rfl) (by kernel_rfl) rfl rfl (Yl.move rfl) rfl ?_ -- t125
        refine WD.take 3 rfl (by kernel_rfl) (by kernel_rfl) (by kernel_rfl) rfl rfl (Yl.move rfl) rfl ?_ -- t126
        refine WD.take 4 rfl (by kernel_rfl) (by kernel_rfl) (by kernel_rfl) rfl rfl (Yl.move rfl) rfl ?_ -- t127
        refine WD.take 5 rfl (by kernel_rfl) (by kernel_rfl) (by kernel_rfl) rfl rfl (Yl.nilCheck rfl) rfl ?_ -- t128
        refine WD.take 6 rfl (by kernel_rfl) (by kernel_rfl) (by kernel_rfl) rfl rfl (Yl.field fo121_3 rfl) rfl ?_ -- t129
        refine WD.take 7 rfl (by kernel_rfl) (by kernel_rfl) (by kernel_rfl) rfl rfl (Yl.field fo119_1 rfl) rfl ?_ -- t130
        refine WD.take 8 rfl (by kernel_rfl) (by kernel_rfl) (by kernel_rfl) rfl rfl (Yl.loadNS ag117 rfl hm (by rfl) (show _ = three T.e1 T.e2 T.e3 from rfl)) rfl ?_ -- t131
        refine WD.take 11 rfl (by kernel_rfl) (by kernel_rfl) (by kernel_rfl) rfl rfl (Yl.move rfl) rfl ?_ -- t134
        refine WD.take 12 rfl (by kernel_rfl) (by kernel_rfl) (by kernel_rfl) rfl rfl (Yl.indexA (j := 5) un126 sz103 rfl rfl rfl (by omega)) rfl ?_ -- t135
        refine WD.take 13 rfl (by kernel_rfl) (by kernel_rfl) (by kernel_rfl) rfl rfl (Yl.load on103 rfl (by repeat (first | exact Take1.head | apply Take1.tail)) (by rfl)) rfl ?_ -- t136
        refine WD.take 14 rfl (by kernel_rfl) (by kernel_rfl) (by kernel_rfl) rfl rfl (Yl.and rfl rfl) rfl ?_ -- t137
        refine WD.take 15 rfl (by kernel_rfl) (by kernel_rfl) (by kernel_rfl) rfl rfl (Yl.move rfl) rfl ?_ -- t138
        refine WD.take 16 rfl (by kernel_rfl) (by kernel_rfl) (by kernel_rfl) rfl rfl (Yl.com rfl) rfl ?_ -- t139
        refine WD.take 17 rfl (by kernel_rfl) (by kernel_rfl) (by kernel_rfl) rfl rfl (Yl.indexA (j := 6) un126 sz103 rfl rfl rfl (by omega)) rfl ?_ -- t140
        refine WD.take 18 rfl (by kernel_rfl) (by kernel_rfl) (by kernel_rfl) rfl rfl (Yl.load on103 rfl (by repeat (first | exact Take1.head | apply Take1.tail)) (by rfl)) rfl ?_ -- t141
        refine WD.take 19 rfl (by kernel_rfl) (by kernel_rfl) (by kernel_rfl) rfl rfl (Yl.and rfl rfl) rfl ?_ -- t142
        refine WD.take 20 rfl (by kernel_rfl) (by kernel_rfl) (by kernel_rfl) rfl rfl (Yl.xor rfl rfl) rfl ?_ -- t143
        refine WD.take 22 rfl (by kernel_rfl) (by kernel_rfl) (by kernel_rfl) rfl rfl (Yl.move rfl) rfl ?_ -- t145
        refine WD.take 24 rfl (by kernel_rfl) (by kernel_rfl) (by kernel_rfl) rfl rfl (Yl.move rfl) rfl ?_ -- t147
        refine WD.take 25 rfl (by kernel_rfl) (by kernel_rfl) (by kernel_rfl) rfl rfl (Yl.move rfl) rfl ?_ -- t148
        refine WD.take 26 rfl (by kernel_rfl) (by kernel_rfl) (by kernel_rfl) rfl rfl (Yl.index un115 sz103 rfl rfl (Reads.of RdOf.own (by repeat (first | exact Take1.head | apply Take1.tail))) rfl (by omega)) rfl ?_ -- t149
        refine WD.take 27 rfl (by kernel_rfl) (by kernel_rfl) (by kernel_rfl) rfl rfl (Yl.loadE on103 rfl (Reads.of RdOf.own (by repeat (first | exact Take1.head | apply Take1.tail))) (ints_get _ W j (by omega))) rfl ?_ -- t150
        refine WD.one 9 (by kernel_rfl) ?_
        refine WO.callC (xs := [.tmp 125, .tmp 126, .tmp 131]) (cap := []) rfl .no rfl rfl en84 (by repeat (first | exact TakeL.nil | (apply TakeL.cons; · repeat (first | exact Take1.head | apply Take1.tail)))) (fun w hw => big32_any m _ rfl x4 T.e1 T.e2 T.e3 hT2.1 hT2.2.1 hT2.2.2 w (hw.srcBS (A := []) hm) hw.left.here) rfl (fun _ => ⟨_, (by repeat (first | exact TakeL.nil | (apply TakeL.cons; · repeat (first | exact Take1.head | apply Take1.tail))))⟩) ?_ -- t132 (*hailer/sha.machine[uint32]).big
        rintro ⟨⟩ -
        refine WD.take 10 rfl (by kernel_rfl) (by kernel_rfl) (by kernel_rfl) rfl rfl (Yl.add rfl rfl rfl) rfl ?_ -- t133
        refine WD.take 21 rfl (by kernel_rfl) (by kernel_rfl) (by kernel_rfl) rfl rfl (Yl.add rfl rfl rfl) rfl ?_ -- t144
        refine WD.take 23 rfl (by kernel_rfl) (by kernel_rfl) (by kernel_rfl) rfl rfl (Yl.add rfl rfl rfl) rfl ?_ -- t146
        refine WD.take 28 rfl (by kernel_rfl) (by kernel_rfl) (by kernel_rfl) rfl rfl (Yl.add rfl rfl rfl) rfl ?_ -- t151
        refine WD.say (t := 151) (v' := .int .u32 (pF .u32 32 T x7 x4 x5 x6 (ks.getD j 0) (W.getD j 0))) rfl (by rfl) ?_
        refine WD.take 29 rfl (by kernel_rfl) (by kernel_rfl) (by kernel_rfl) rfl rfl (Yl.assign rfl) rfl ?_ -- t14
        refine WD.done (by kernel_rfl) ?_
        refine WC.seq ?_
        refine WC.region ?_
        refine WL.y (Yl.move rfl) rfl ?_ -- t152
        refine WL.y (Yl.move rfl) rfl ?_ -- t153
        refine WL.y (Yl.move rfl) rfl ?_ -- t154
        refine WL.y (Yl.nilCheck rfl) rfl ?_ -- t155
        refine WL.y (Yl.field fo121_3 rfl) rfl ?_ -- t156
        refine WL.y (Yl.field fo119_0 rfl) rfl ?_ -- t157
        refine WL.y (Yl.loadNS ag117 rfl hm (by rfl) (show _ = three T.a1 T.a2 T.a3 from rfl)) rfl ?_ -- t158
        refine WL.callC (xs := [.tmp 152, .tmp 153, .tmp 158]) (cap := []) rfl rfl en84 (by repeat (first | exact TakeL.nil | (apply TakeL.cons; · repeat (first | exact Take1.head | apply Take1.tail)))) (fun w hw => big32_any m _ rfl x0 T.a1 T.a2 T.a3 hT1.1 hT1.2.1 hT1.2.2 w (hw.srcBS (A := []) hm) hw.left.here) rfl ?_ -- t159 (*hailer/sha.machine[uint32]).big
        rintro ⟨⟩ -
        refine WL.y (Yl.move rfl) rfl ?_ -- t160
        refine WL.y (Yl.move rfl) rfl ?_ -- t161
        refine WL.y (Yl.and rfl rfl) rfl ?_ -- t162
        refine WL.y (Yl.move rfl) rfl ?_ -- t163
        refine WL.y (Yl.move rfl) rfl ?_ -- t164
        refine WL.y (Yl.and rfl rfl) rfl ?_ -- t165
        refine WL.y (Yl.xor rfl rfl) rfl ?_ -- t166
        refine WL.y (Yl.move rfl) rfl ?_ -- t167
        refine WL.y (Yl.move rfl) rfl ?_ -- t168
        refine WL.y (Yl.and rfl rfl) rfl ?_ -- t169
        refine WL.y (Yl.xor rfl rfl) rfl ?_ -- t170
        refine WL.y (Yl.add rfl rfl rfl) rfl ?_ -- t171
        refine WL.say (t := 171) (v' := .int .u32 (qF .u32 32 T x0 x1 x2)) rfl (by rfl) ?_
        refine WL.y (Yl.assign rfl) rfl ?_ -- t15
        refine WL.nil ?_
        refine WC.region ?_
        obtain ⟨p, hp⟩ : ∃ p, pF .u32 32 T x7 x4 x5 x6 (ks.getD j 0) (W.getD j 0) = p := ⟨_, rfl⟩
        obtain ⟨q, hq⟩ : ∃ q, qF .u32 32 T x0 x1 x2 = q := ⟨_, rfl⟩
        rw [hp, hq]
        refine WL.y (Yl.move rfl) rfl ?_ -- t172
        refine WL.y (Yl.move rfl) rfl ?_ -- t173
        refine WL.y (Yl.add rfl rfl rfl) rfl ?_ -- t174
        refine WL.y (Yl.move rfl) rfl ?_ -- t175
        refine WL.y (Yl.move rfl) rfl ?_ -- t176
        refine WL.y (Yl.move rfl) rfl ?_ -- t177
        refine WL.y (Yl.indexA (j := 3) un126 sz103 rfl rfl rfl (by omega)) rfl ?_ -- t178
        refine WL.y (Yl.load on103 rfl (by repeat (first | exact Take1.head | apply Take1.tail)) (by rfl)) rfl ?_ -- t179
        refine WL.y (Yl.move rfl) rfl ?_ -- t180
        refine WL.y (Yl.add rfl rfl rfl) rfl ?_ -- t181
        refine WL.y (Yl.move rfl) rfl ?_ -- t182
        refine WL.y (Yl.indexA (j := 5) un126 sz103 rfl rfl rfl (by omega)) rfl ?_ -- t183
        refine WL.y (Yl.load on103 rfl (by repeat (first | exact Take1.head | apply Take1.tail)) (by rfl)) rfl ?_ -- t184
        refine WL.y (Yl.indexA (j := 6) un126 sz103 rfl rfl rfl (by omega)) rfl ?_ -- t185
        refine WL.y (Yl.load on103 rfl (by repeat (first | exact Take1.head | apply Take1.tail)) (by rfl)) rfl ?_ -- t186
        refine WL.y (Yl.build rfl (cs := ints .u32 [IntKind.u32.wrap (p + q), x0, x1, x2, IntKind.u32.wrap (x3 + p), x4, x5, x6]) (fun _ => by kernel_rfl)) rfl ?_ -- t187
        refine WL.sto (Sto.agg sz126 rfl rfl (by repeat (first | exact Take1.head | apply Take1.tail)) (ints_one _ _) rfl (by rfl) (put8 rfl)) (fun _ h => nomatch h) ?_ -- st 3
        refine WL.nil ?_
        refine WC.region ?_
        refine WL.y (Yl.add rfl rfl (IntWalk.i64_in _ (by omega))) rfl ?_ -- t188
        refine WL.y (Yl.move rfl) rfl ?_ -- t110
        refine WL.nil ?_
        have hn : rsF .u32 32 T ks W H (j + 1) = [IntKind.u32.wrap (p + q), x0, x1, x2, IntKind.u32.wrap (x3 + p), x4, x5, x6] := by
          show rdF .u32 32 T (rsF .u32 32 T ks W H j) (ks.getD j 0) (W.getD j 0) = _
          rw [hX, ← hp, ← hq]
          rfl
        refine ⟨rfl, j + 1, by omega, by omega, ?_⟩
        rw [hn]
        exact ⟨(by repeat (first | exact Sub.nil | refine Sub.cons rfl ?_)), _, (by repeat (first | exact TakeL.nil | (apply TakeL.cons; · repeat (first | exact Take1.head | apply Take1.tail))))⟩
      · refine WC.exit ?_
        refine WC.seq ?_
        refine WC.region ?_
        refine WL.y (Yl.move rfl) rfl ?_ -- t189
        refine WL.nil ?_
        refine WC.block ?_
        have hj2 : j = 64 := by omega
        subst hj2
        rw [← hX]
        obtain ⟨X, hXX⟩ : ∃ X, rsF .u32 32 T ks W H 64 = X := ⟨_, rfl⟩
        rw [hXX] at hrl ⊢
        refine WC.loop (α := Nat) (fun i => [(0, .pointer (some ⟨m, 0, none⟩)), (7, .pointer (some ⟨b7, 0, none⟩)), (189, .int .i64 (i : Int))]) (fun i => [ownR (.slice ho 8 hc) 103 1 8 (ints .u32 (adF .u32 H X i)), blkR b7 126 (ints .u32 X)]) (fun i => i ≤ 8) (fun i => 8 - i) 0 (Nat.zero_le _) ⟨(by repeat (first | exact Sub.nil | refine Sub.cons rfl ?_)), _, (by repeat (first | exact TakeL.nil | (apply TakeL.cons; · repeat (first | exact Take1.head | apply Take1.tail))))⟩ ?_
        intro i hi
        have hal := adF_len .u32 H X i
        rw [hH] at hal
        refine WC.seq ?_
        refine WC.region ?_
        refine WL.y (Yl.lss rfl rfl) rfl ?_ -- t190
        refine WL.nil ?_
        refine WC.seq ?_
        refine WC.condD rfl (fun g190 => ?_) (fun g190 => ?_)
        · refine WC.skip ?_
          refine WC.seq ?_
          refine WC.block ?_
          refine WC.seq ?_
          refine WC.region ?_
          refine WL.y (Yl.move rfl) rfl ?_ -- t191
          refine WL.y (Yl.assign rfl) rfl ?_ -- t16
          refine WL.nil ?_
          refine WC.drawTail 12 mixed (by kernel_rfl) ?_
          refine WH.y (Yl.move rfl) rfl ?_ -- t192
          refine WH.y (Yl.nilCheck rfl) rfl ?_ -- t193
          refine WH.y (Yl.field fo121_0 rfl) rfl ?_ -- t194
          refine WH.y (Yl.loadS on115 rfl hm (by rfl)) rfl ?_ -- t195
          refine WH.y (Yl.move rfl) rfl ?_ -- t196
          refine WH.y (Yl.index un115 sz103 rfl rfl (Reads.of RdOf.own (by repeat (first | exact Take1.head | apply Take1.tail))) rfl (by omega)) rfl ?_ -- t197
          refine WH.y (Yl.loadE on103 rfl (Reads.of RdOf.own (by repeat (first | exact Take1.head | apply Take1.tail))) (ints_get _ _ i (by omega))) rfl ?_ -- t198
          refine WH.y (Yl.move rfl) rfl ?_ -- t199
          refine WH.y (Yl.indexA un126 sz103 rfl rfl rfl (by omega)) rfl ?_ -- t200
          refine WH.y (Yl.load on103 rfl (by repeat (first | exact Take1.head | apply Take1.tail)) (show _ = some (.int .u32 (X.getD i 0)) by rw [show 0 + i * 1 = i by omega]; exact ints_get _ X i (by omega))) rfl ?_ -- t201
          refine WH.y (Yl.add rfl rfl rfl) rfl ?_ -- t202
          refine WH.y (Yl.index un115 sz103 rfl rfl (Reads.of RdOf.own (by repeat (first | exact Take1.head | apply Take1.tail))) rfl (by omega)) rfl ?_ -- t203
          refine WH.nil ?_
          refine WP.sto (Sto.elem sz103 rfl rfl (by repeat (first | exact Take1.head | apply Take1.tail)) rfl (by omega) (by rfl)) (fun _ h => nomatch h) ?_ -- st 4
          refine WP.nil ?_
          refine WC.region ?_
          refine WL.y (Yl.add rfl rfl (IntWalk.i64_in _ (by omega))) rfl ?_ -- t204
          refine WL.y (Yl.move rfl) rfl ?_ -- t189
          refine WL.nil ?_
          rw [ints_set]
          exact ⟨rfl, i + 1, by omega, by omega, (by repeat (first | exact Sub.nil | refine Sub.cons rfl ?_)), _, (by repeat (first | exact TakeL.nil | (apply TakeL.cons; · repeat (first | exact Take1.head | apply Take1.tail))))⟩
        · refine WC.exit ?_
          repeat (first | (with_reducible refine peelT ?_) | (with_reducible refine peelB ?_) | (with_reducible refine peelTX ?_) | (with_reducible refine peelBX ?_) | (with_reducible refine peelBN ?_) | (with_reducible refine peelBO rfl ?_))
          have hi2 : i = 8 := by omega
          subst hi2
          refine ret0 (.inl rfl) Try.results80 fun w' hh => ⟨(), trivial, rfl, ?_⟩
          have e : blockF .u32 32 4 64 T ks H bs = adF .u32 H X 8 := by unfold blockF; rw [hws, hW, hXX]
          rw [e]
          exact hh.sub (by repeat (first | exact TakeL.nil | (apply TakeL.cons; · repeat (first | exact Take1.head | apply Take1.tail))))
end Go.Proofs.Ytfdnnlcfolgegaa
