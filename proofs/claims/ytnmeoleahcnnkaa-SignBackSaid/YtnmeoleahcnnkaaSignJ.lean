/- SignBack: the walk. -/
import Derived.Test.YtnmeoleahcnnkaaSignI
namespace Go.Proofs.Ytnmeoleahcnnkaa
open Go Go.RowKit

theorem errS_0 {s : Sg} (h : errS s = 0) : mayS s = true := by
  cases hm : mayS s with
  | true => rfl
  | false => rw [errS_no hm] at h; cases h
theorem at_ok {s : Sg} (h : s.ok) (a : Option Addr) (c : Nat) : ({ s with da := a, dc := c } : Sg).ok := ⟨h.kind, h.il, h.ib, h.ca, h.cd, h.ce, h.kl, h.kb, h.n, h.db, h.rs⟩

set_option maxRecDepth 100000 in
theorem signBack_any (s : Sg) (hs : s.ok) (bs : List Int) (v : Value) (hB : Bytes bs) (cut : Nat) (hcut : cut < 65536) (w : World) (hw : OK w (fpL [rdR (.slice s.da s.data.length s.dc) 1 s.data.length (ints .u8 s.data), rdR v 1 bs.length (ints .u8 bs)]) [rdR (.slice s.da s.data.length s.dc) 1 s.data.length (ints .u8 s.data), rdR v 1 bs.length (ints .u8 bs)] w) :
    Fn Try.prog 6 [.agg s.cells.toArray, v, .int .u16 (cut : Int)] [rdR (.slice s.da s.data.length s.dc) 1 s.data.length (ints .u8 s.data), rdR v 1 bs.length (ints .u8 bs)] w (fun _ : Unit => True) (fun _ => .bool true) (fun _ => []) := by
  obtain ⟨al, cl, rfl, hcl, hml⟩ := (hw.get (.tail .head)).form
  have hokB := sigT_okS hB
  refine enterF Try.func6 rfl Try.ntmps6 rfl hw ?_
  refine WC.seq ?_
  refine WC.region ?_
  refine WL.to (To.box (cs := s.cells) rfl rfl) rfl ?_ -- t3
  intro b3
  refine WL.y (Yl.assign rfl) rfl ?_ -- t6
  refine WL.nil ?_
  refine WC.seq ?_
  refine WC.seq ?_
  refine WC.region ?_
  refine WL.y (Yl.move rfl) rfl ?_ -- t18
  refine WL.y (Yl.len un22 rfl) rfl ?_ -- t19
  refine WL.y (Yl.gtr rfl rfl) rfl ?_ -- t20
  refine WL.y (Yl.move rfl) rfl ?_ -- t21
  refine WL.both (t := 21) rfl (fun g21 => ?_) (fun g21 => ?_)
  · refine WL.off rfl rfl rfl rfl ?_ -- t22
    refine WL.off rfl rfl rfl rfl ?_ -- t23
    refine WL.off rfl rfl rfl rfl ?_ -- t24
    refine WL.off rfl rfl rfl rfl ?_ -- t25
    refine WL.y (Yl.pickT rfl rfl) rfl ?_ -- t26
    refine WL.nil ?_
    refine WC.condT rfl (by first | rfl | (simp; done) | (simp; omega)) ?_
    refine WC.seq ?_
    refine WC.region ?_
    refine WL.callC (xs := []) (cap := []) rfl rfl en8 (by repeat (first | exact TakeL.nil | (apply TakeL.cons; · repeat (first | exact Take1.head | apply Take1.tail)))) (fun w hw => sworks_any w hw.left.here) rfl ?_ -- t27 hailer/hailerlaw09.works
    rintro ⟨⟩ -
    refine WL.y (Yl.assign rfl) rfl ?_ -- t6
    refine WL.nil ?_
    refine WC.ret ?_
    repeat (first | (with_reducible refine peelT ?_) | (with_reducible refine peelB ?_) | (with_reducible refine peelTX ?_) | (with_reducible refine peelBX ?_) | (with_reducible refine peelBN ?_) | (with_reducible refine peelBO rfl ?_))
    exact ret1 (.inr rfl) Try.results6 rfl fun w' h => ⟨(), trivial, rfl, h.sub (by repeat (first | exact TakeL.nil | (apply TakeL.cons; · repeat (first | exact Take1.head | apply Take1.tail))))⟩
  · refine WL.on rfl rfl ?_
    refine WL.y (Yl.field fo34_6 rfl) rfl ?_ -- t22
    refine WL.on rfl rfl ?_
    refine WL.y (Yl.load on22 rfl (by repeat (first | exact Take1.head | apply Take1.tail)) (Sg.c53 hs)) rfl ?_ -- t23
    refine WL.on rfl rfl ?_
    refine WL.y (Yl.len un22 rfl) rfl ?_ -- t24
    refine WL.on rfl rfl ?_
    refine WL.y (Yl.gtr rfl rfl) rfl ?_ -- t25
    refine WL.y (Yl.pickF rfl rfl) rfl ?_ -- t26
    refine WL.nil ?_
    refine WC.condD rfl (fun g26 => ?_) (fun g26 => ?_)
    · refine WC.seq ?_
      refine WC.region ?_
      refine WL.callC (xs := []) (cap := []) rfl rfl en8 (by repeat (first | exact TakeL.nil | (apply TakeL.cons; · repeat (first | exact Take1.head | apply Take1.tail)))) (fun w hw => sworks_any w hw.left.here) rfl ?_ -- t27 hailer/hailerlaw09.works
      rintro ⟨⟩ -
      refine WL.y (Yl.assign rfl) rfl ?_ -- t6
      refine WL.nil ?_
      refine WC.ret ?_
      repeat (first | (with_reducible refine peelT ?_) | (with_reducible refine peelB ?_) | (with_reducible refine peelTX ?_) | (with_reducible refine peelBX ?_) | (with_reducible refine peelBN ?_) | (with_reducible refine peelBO rfl ?_))
      exact ret1 (.inr rfl) Try.results6 rfl fun w' h => ⟨(), trivial, rfl, h.sub (by repeat (first | exact TakeL.nil | (apply TakeL.cons; · repeat (first | exact Take1.head | apply Take1.tail))))⟩
    · refine WC.skip ?_
      refine WC.seq ?_
      refine WC.seq ?_
      have hb3 : bs.length ≤ 3000 := by have := g21; simp at this; omega
      refine WC.region ?_
      refine WL.y (Yl.loadN ag34 rfl (by repeat (first | exact Take1.head | apply Take1.tail)) (fitLe (by rw [Sg.len hs]; omega)) (Sg.call hs)) rfl ?_ -- t29
      refine WL.callC (xs := [.tmp 29]) (cap := []) rfl rfl en7 (by repeat (first | exact TakeL.nil | (apply TakeL.cons; · repeat (first | exact Take1.head | apply Take1.tail)))) (fun w hw => sput_any s hs w (hw.src (A := []) (r := rdR (.slice s.da s.data.length s.dc) 1 s.data.length (ints .u8 s.data)) RdOf.rd' (by repeat (first | exact Take1.head | apply Take1.tail))) hw.left.here) rfl ?_ -- t30 hailer/sign.Put
      rintro ⟨a30, c30⟩ hc30
      dsimp only at hc30 ⊢
      refine WL.y (Yl.move rfl) rfl ?_ -- t28
      refine WL.y (Yl.extract rfl rfl) rfl ?_ -- t31
      refine WL.y (Yl.extract rfl rfl) rfl ?_ -- t32
      refine WL.y (Yl.assign rfl) rfl ?_ -- t7
      refine WL.y (Yl.assign rfl) rfl ?_ -- t8
      refine WL.nil ?_
      refine WC.seq ?_
      refine WC.region ?_
      refine WL.y (Yl.move rfl) rfl ?_ -- t33
      refine WL.y (Yl.eql rfl rfl) rfl ?_ -- t34
      refine WL.nil ?_
      refine WC.condD rfl (fun g34 => ?_) (fun g34 => ?_)
      · refine WC.seq ?_
        have hm := errS_0 g34
        have hl := sigB_len hs
        have hBb := sigB_bytes hs
        have hBt := sigT_B hs hm
        rw [putS_yes hm] at hc30 ⊢
        rw [errS_yes hm]
        obtain ⟨B, hBe⟩ : ∃ B, sigB s = B := ⟨_, rfl⟩
        rw [hBe] at hl hBb hBt hc30 ⊢
        have hnok : s.norm.ok := at_ok hs _ _
        refine WC.region ?_
        refine WL.y (Yl.move rfl) rfl ?_ -- t36
        refine WL.callC (xs := [.tmp 36]) (cap := []) rfl rfl en9 (by repeat (first | exact TakeL.nil | (apply TakeL.cons; · repeat (first | exact Take1.head | apply Take1.tail)))) (fun w hw => stakeT_any B (.slice a30 B.length c30) hBb (by omega) w (hw.src (A := []) RdOf.own (by repeat (first | exact Take1.head | apply Take1.tail))) hw.left.here) rfl ?_ -- t37 hailer/sign.Take
        rintro ⟨r37, a37, c37⟩ hr37
        dsimp only at hr37 ⊢
        rw [hBt] at hr37 ⊢
        have hok37 := at_ok hnok a37 c37
        refine WL.y (Yl.move rfl) rfl ?_ -- t35
        refine WL.y (Yl.extract rfl rfl) rfl ?_ -- t38
        refine WL.y (Yl.extract rfl rfl) rfl ?_ -- t39
        refine WL.to (To.alloc (cs := Sg.zero.cells) zr34 rfl) rfl ?_ -- t9
        intro b9
        refine WL.sto (Sto.agg sz34 rfl rfl (by repeat (first | exact Take1.head | apply Take1.tail)) (Sg.ones _) (Sg.len hok37) (by rfl) (Sg.all rfl _)) (fun _ h => nomatch h) ?_ -- st 1
        refine WL.y (Yl.assign rfl) rfl ?_ -- t10
        refine WL.nil ?_
        refine WC.seq ?_
        obtain ⟨B1, hB1⟩ : ∃ B1, B ++ [0] = B1 := ⟨_, rfl⟩
        have hB1l : B1.length = B.length + 1 := by rw [← hB1]; simp
        have hB1b : Bytes B1 := hB1 ▸ hBb.app (fun x hx => by simp at hx; subst hx; decide)
        have h46 : (sigT B1).2 = false := hB1 ▸ sigT_more (bs := B) (by rw [hBt]) 0
        refine WC.region ?_
        refine WL.to (To.buildSlice (vs := []) un22 zs5 rfl rfl (by simp [Value.cells]) (by decide) (by decide)) rfl ?_ -- t41
        intro b41
        refine WL.view (fun w h => h.blkOwn (b := b41) (size := 1) (n := 0) (by repeat (first | exact Take1.head | apply Take1.tail)) (by unfold maxLen; omega) rfl) ?_
        refine WL.y (Yl.move rfl) rfl ?_ -- t42
        refine WL.to (To.append sl22 rfl rfl (by repeat (first | exact Take1.head | apply Take1.tail)) (Reads.of (r := ownR (.slice a30 B.length c30) 5 1 B.length (ints .u8 B)) RdOf.own (by repeat (first | exact Take1.head | apply Take1.tail))) (ints_one _ _) (Nat.zero_add _) (show [] ++ ints .u8 B = ints .u8 B from rfl) (by unfold maxLen; omega) (by omega)) rfl ?_ -- t43
        rintro ⟨⟨ao43, c43⟩, hc43⟩
        dsimp only at hc43 ⊢
        refine WL.to (To.buildSlice (vs := [.int .u8 0]) un22 zs5 rfl rfl (by simp [Value.cells]) (by decide) (by decide)) rfl ?_ -- t44
        intro b44
        refine WL.to (To.append sl22 rfl rfl (by repeat (first | exact Take1.head | apply Take1.tail)) (Reads.of (RdOf.blk (cs := [.int .u8 0]) (cs' := ints .u8 [0]) (Nat.le_refl _) (by unfold maxLen; omega) (by simp) rfl) (by repeat (first | exact Take1.head | apply Take1.tail))) (ints_one _ _) hB1l.symm (show ints .u8 B ++ ints .u8 [0] = ints .u8 B1 by rw [ints_append, hB1]) (by unfold maxLen; omega) (by omega)) rfl ?_ -- t45
        rintro ⟨⟨ao45, c45⟩, hc45⟩
        dsimp only at hc45 ⊢
        refine WL.callC (xs := [.tmp 45]) (cap := []) rfl rfl en9 (by repeat (first | exact TakeL.nil | (apply TakeL.cons; · repeat (first | exact Take1.head | apply Take1.tail)))) (fun w hw => stakeT_any B1 (.slice ao45 B1.length c45) hB1b (by omega) w (hw.src (A := []) (r := ownR (.slice ao45 B1.length c45) 5 1 B1.length (ints .u8 B1)) RdOf.own (by repeat (first | exact Take1.head | apply Take1.tail))) hw.left.here) rfl ?_ -- t46 hailer/sign.Take
        rintro ⟨r46, a46, c46⟩ -
        have hok46 := at_ok (sigT_okS hB1b) a46 c46
        dsimp only
        rw [h46]
        refine WL.y (Yl.move rfl) rfl ?_ -- t40
        refine WL.y (Yl.extract rfl rfl) rfl ?_ -- t47
        refine WL.y (Yl.extract rfl rfl) rfl ?_ -- t48
        refine WL.to (To.alloc (cs := Sg.zero.cells) zr34 rfl) rfl ?_ -- t11
        intro b11
        refine WL.sto (Sto.agg sz34 rfl rfl (by repeat (first | exact Take1.head | apply Take1.tail)) (Sg.ones _) (Sg.len hok46) (by rfl) (Sg.all rfl _)) (fun _ h => nomatch h) ?_ -- st 2
        refine WL.y (Yl.assign rfl) rfl ?_ -- t12
        refine WL.nil ?_
        refine WC.seq ?_
        refine WC.seq ?_
        refine WC.region ?_
        refine WL.y (Yl.move rfl) rfl ?_ -- t49
        refine WL.y (Yl.neq rfl rfl) rfl ?_ -- t50
        refine WL.know (t := 50) (b' := false) rfl (by first | rfl | (simp; done) | (simp; omega)) ?_
        refine WL.y (Yl.move rfl) rfl ?_ -- t51
        refine WL.on rfl rfl ?_
        refine WL.y (Yl.loadN ag34 rfl (by repeat (first | exact Take1.head | apply Take1.tail)) (fitLe (by rw [Sg.len hs]; omega)) (Sg.call hs)) rfl ?_ -- t52
        refine WL.on rfl rfl ?_
        refine WL.y (Yl.loadN ag34 rfl (by repeat (first | exact Take1.head | apply Take1.tail)) (fitLe (by rw [Sg.len hok37]; omega)) (Sg.call hok37)) rfl ?_ -- t53
        refine WL.on rfl rfl ?_
        refine WL.callC (xs := [.tmp 52, .tmp 53]) (cap := []) rfl rfl en14 (by repeat (first | exact TakeL.nil | (apply TakeL.cons; · repeat (first | exact Take1.head | apply Take1.tail)))) (fun w hw => same_any _ _ hs hok37 w (hw.src (A := []) (r := rdR (.slice s.da s.data.length s.dc) 1 s.data.length (ints .u8 s.data)) RdOf.rd' (by repeat (first | exact Take1.head | apply Take1.tail))) (hw.src (A := []) hr37 (by repeat (first | exact Take1.head | apply Take1.tail))) hw.left.here) rfl ?_ -- t54 hailer/hailerref09.Same
        rintro ⟨⟩ -
        refine WL.know (t := 54) (b' := true) rfl (sameS_iff.2 rfl) ?_
        refine WL.on rfl rfl ?_
        refine WL.y (Yl.not rfl) rfl ?_ -- t55
        refine WL.y (Yl.pickF rfl rfl) rfl ?_ -- t56
        refine WL.y (Yl.move rfl) rfl ?_ -- t57
        refine WL.on rfl rfl ?_
        refine WL.y (Yl.move rfl) rfl ?_ -- t58
        refine WL.on rfl rfl ?_
        refine WL.y (Yl.neq rfl rfl) rfl ?_ -- t59
        refine WL.know (t := 59) (b' := false) rfl (by first | rfl | (simp; done) | (simp; omega)) ?_
        refine WL.y (Yl.pickF rfl rfl) rfl ?_ -- t60
        refine WL.nil ?_
        refine WC.condF rfl (by first | rfl | (simp; done) | (simp; omega)) ?_
        refine WC.skip ?_
        refine WC.seq ?_
        refine WC.region ?_
        refine WL.y (Yl.move rfl) rfl ?_ -- t61
        refine WL.y (Yl.len un22 rfl) rfl ?_ -- t62
        refine WL.y (Yl.gtr rfl rfl) rfl ?_ -- t63
        refine WL.nil ?_
        refine WC.condD rfl (fun g63 => ?_) (fun g63 => ?_)
        · refine WC.seq ?_
          refine WC.region ?_
          refine WL.y (Yl.move rfl) rfl ?_ -- t65
          refine WL.y (Yl.move rfl) rfl ?_ -- t66
          refine WL.y (Yl.conv un44 un3 rfl (IntWalk.i64_in _ (by omega))) rfl ?_ -- t67
          refine WL.y (Yl.move rfl) rfl ?_ -- t68
          refine WL.y (Yl.len un22 rfl) rfl ?_ -- t69
          have hlp : 0 < B.length := by omega
          have hml2 := Nat.mod_lt cut hlp
          refine WL.y (Yl.rem rfl rfl (by omega) (i64_rem (by omega))) rfl ?_ -- t70
          refine WL.say (t := 70) (v' := .int .i64 ((cut % B.length : Nat) : Int)) rfl (by rw [Int.natCast_emod]) ?_
          refine WL.y (Yl.slice (h := cut % B.length) un22 sz5 rfl rfl ⟨_, rfl⟩ (by omega) (by omega)) rfl ?_
          refine WL.callC (xs := [.tmp 71]) (cap := []) rfl rfl en9 (by repeat (first | exact TakeL.nil | (apply TakeL.cons; · repeat (first | exact Take1.head | apply Take1.tail)))) (fun w hw => stakeT_any ((B.drop 0).take (cut % B.length - 0)) _ ((hBb.drop 0).take _) (by simp; omega) w ((hw.src (A := []) (r := ownR (.slice a30 B.length c30) 5 1 B.length (ints .u8 B)) RdOf.own (by repeat (first | exact Take1.head | apply Take1.tail))).sub8 (l := 0) (h := cut % B.length) (by omega)) hw.left.here) rfl ?_ -- t72 hailer/sign.Take
          rintro ⟨r72, a72, c72⟩ -
          have h72 : (sigT ((B.drop 0).take (cut % B.length - 0))).2 = false := sigT_cut (bs := B) (by rw [hBt]) (m := cut % B.length) hml2
          have hok72 := at_ok (sigT_okS (bs := (B.drop 0).take (cut % B.length - 0)) ((hBb.drop 0).take _)) a72 c72
          obtain ⟨B0, hB0e⟩ : ∃ B0, (B.drop 0).take (cut % B.length - 0) = B0 := ⟨_, rfl⟩
          rw [hB0e] at h72 hok72 ⊢
          dsimp only
          rw [h72]
          refine WL.y (Yl.move rfl) rfl ?_ -- t64
          refine WL.y (Yl.extract rfl rfl) rfl ?_ -- t73
          refine WL.y (Yl.extract rfl rfl) rfl ?_ -- t74
          refine WL.to (To.alloc (cs := Sg.zero.cells) zr34 rfl) rfl ?_ -- t13
          intro b13
          refine WL.sto (Sto.agg sz34 rfl rfl (by repeat (first | exact Take1.head | apply Take1.tail)) (Sg.ones _) (Sg.len hok72) (by rfl) (Sg.all rfl _)) (fun _ h => nomatch h) ?_ -- st 3
          refine WL.y (Yl.assign rfl) rfl ?_ -- t14
          refine WL.nil ?_
          refine WC.seq ?_
          refine WC.region ?_
          refine WL.y (Yl.move rfl) rfl ?_ -- t75
          refine WL.y (Yl.neq rfl rfl) rfl ?_ -- t76
          refine WL.know (t := 76) (b' := false) rfl (by first | rfl | (simp; done) | (simp; omega)) ?_
          refine WL.nil ?_
          refine WC.condF rfl (by first | rfl | (simp; done) | (simp; omega)) ?_
          refine WC.skip ?_
          refine WC.seq ?_
          refine WC.region ?_
          refine WL.y (Yl.move rfl) rfl ?_ -- t78
          refine WL.callC (xs := [.tmp 78]) (cap := []) rfl rfl en9 (by repeat (first | exact TakeL.nil | (apply TakeL.cons; · repeat (first | exact Take1.head | apply Take1.tail)))) (fun w hw => stakeT_any bs (.slice al bs.length cl) hB (by omega) w (hw.src (A := []) (r := rdR (.slice al bs.length cl) 1 bs.length (ints .u8 bs)) RdOf.rd' (by repeat (first | exact Take1.head | apply Take1.tail))) hw.left.here) rfl ?_ -- t79 hailer/sign.Take
          rintro ⟨r79, a79, c79⟩ hr79
          dsimp only at hr79 ⊢
          have hok79 := at_ok hokB a79 c79
          refine WL.y (Yl.move rfl) rfl ?_ -- t77
          refine WL.y (Yl.extract rfl rfl) rfl ?_ -- t80
          refine WL.y (Yl.extract rfl rfl) rfl ?_ -- t81
          refine WL.to (To.alloc (cs := Sg.zero.cells) zr34 rfl) rfl ?_ -- t15
          intro b15
          refine WL.sto (Sto.agg sz34 rfl rfl (by repeat (first | exact Take1.head | apply Take1.tail)) (Sg.ones _) (Sg.len hok79) (by rfl) (Sg.all rfl _)) (fun _ h => nomatch h) ?_ -- st 4
          refine WL.y (Yl.assign rfl) rfl ?_ -- t16
          refine WL.nil ?_
          refine WC.seq ?_
          refine WC.seq ?_
          refine WC.region ?_
          refine WL.y (Yl.move rfl) rfl ?_ -- t82
          refine WL.y (Yl.neq rfl rfl) rfl ?_ -- t83
          refine WL.nil ?_
          refine WC.condD rfl (fun g83 => ?_) (fun g83 => ?_)
          · refine WC.seq ?_
            refine WC.region ?_
            refine WL.y (Yl.loadN ag34 rfl (by repeat (first | exact Take1.head | apply Take1.tail)) (fitLe (by rw [Sg.len hok79]; omega)) (Sg.call hok79)) rfl ?_ -- t84
            refine WL.y (Yl.build rfl (cs := Sg.zero.cells) (fun _ => by kernel_rfl)) rfl ?_ -- t85
            refine WL.callC (xs := [.tmp 84, .tmp 85]) (cap := []) rfl rfl en14 (by repeat (first | exact TakeL.nil | (apply TakeL.cons; · repeat (first | exact Take1.head | apply Take1.tail)))) (fun w hw => same_any _ _ hok79 zero_sg w (hw.src (A := []) hr79 (by repeat (first | exact Take1.head | apply Take1.tail))) RdS.nil8 hw.left.here) rfl ?_ -- t86 hailer/hailerref09.Same
            rintro ⟨⟩ -
            refine WL.know (t := 86) (b' := true) rfl (sameS_iff.2 (by have e := sigT_zero (bs := bs) (by cases h : (sigT bs).2 with | false => rfl | true => rw [h] at g83; exact absurd rfl g83); rw [e]; rfl)) ?_
            refine WL.y (Yl.move rfl) rfl ?_ -- t87
            refine WL.on rfl rfl ?_
            refine WL.callC (xs := []) (cap := []) rfl rfl en8 (by repeat (first | exact TakeL.nil | (apply TakeL.cons; · repeat (first | exact Take1.head | apply Take1.tail)))) (fun w hw => sworks_any w hw.left.here) rfl ?_ -- t88 hailer/hailerlaw09.works
            rintro ⟨⟩ -
            refine WL.y (Yl.pickT rfl rfl) rfl ?_ -- t89
            refine WL.y (Yl.assign rfl) rfl ?_ -- t6
            refine WL.nil ?_
            refine WC.ret ?_
            repeat (first | (with_reducible refine peelT ?_) | (with_reducible refine peelB ?_) | (with_reducible refine peelTX ?_) | (with_reducible refine peelBX ?_) | (with_reducible refine peelBN ?_) | (with_reducible refine peelBO rfl ?_))
            exact ret1 (.inr rfl) Try.results6 rfl fun w' h => ⟨(), trivial, rfl, h.sub (by repeat (first | exact TakeL.nil | (apply TakeL.cons; · repeat (first | exact Take1.head | apply Take1.tail))))⟩
          · refine WC.skip ?_
            refine WC.seq ?_
            have hbt : (sigT bs).2 = true := by
              cases h : (sigT bs).2 with
              | true => rfl
              | false => rw [h] at g83; exact absurd (show ¬ errT false = 0 by decide) g83
            obtain ⟨t0, ht0, hmt, hte⟩ := sigT_shp hbt
            have e1 : (sigT bs).1 = t0 := by rw [hte]
            have eB : sigB t0 = bs := sigB_shp hB ht0
            rw [e1] at hr79 hok79 ⊢
            refine WC.region ?_
            refine WL.y (Yl.loadN ag34 rfl (by repeat (first | exact Take1.head | apply Take1.tail)) (fitLe (by rw [Sg.len hok79]; omega)) (Sg.call hok79)) rfl ?_ -- t91
            refine WL.callC (xs := [.tmp 91]) (cap := []) rfl rfl en7 (by repeat (first | exact TakeL.nil | (apply TakeL.cons; · repeat (first | exact Take1.head | apply Take1.tail)))) (fun w hw => sput_any _ hok79 w (hw.src (A := []) hr79 (by repeat (first | exact Take1.head | apply Take1.tail))) hw.left.here) rfl ?_ -- t92 hailer/sign.Put
            rintro ⟨a92, c92⟩ -
            have eP : putS ({ t0 with da := a79, dc := c79 } : Sg) = bs := (putS_yes (s := { t0 with da := a79, dc := c79 }) hmt).trans eB
            have eE : errS ({ t0 with da := a79, dc := c79 } : Sg) = 0 := errS_yes (s := { t0 with da := a79, dc := c79 }) hmt
            dsimp only
            rw [eP, eE]
            refine WL.y (Yl.move rfl) rfl ?_ -- t90
            refine WL.y (Yl.extract rfl rfl) rfl ?_ -- t93
            refine WL.y (Yl.extract rfl rfl) rfl ?_ -- t94
            refine WL.y (Yl.assign rfl) rfl ?_ -- t17
            refine WL.y (Yl.assign rfl) rfl ?_ -- t16
            refine WL.nil ?_
            refine WC.seq ?_
            refine WC.region ?_
            refine WL.y (Yl.move rfl) rfl ?_ -- t95
            refine WL.y (Yl.eql rfl rfl) rfl ?_ -- t96
            refine WL.know (t := 96) (b' := true) rfl (by first | rfl | (simp; done) | (simp; omega)) ?_
            refine WL.y (Yl.move rfl) rfl ?_ -- t97
            refine WL.on rfl rfl ?_
            refine WL.y (Yl.move rfl) rfl ?_ -- t98
            refine WL.on rfl rfl ?_
            refine WL.y (Yl.toStr un22 un5 un9 rfl (Reads.of (r := ownR (.slice a92 bs.length c92) 5 1 bs.length (ints .u8 bs)) RdOf.own (by repeat (first | exact Take1.head | apply Take1.tail)))) rfl ?_ -- t99
            refine WL.on rfl rfl ?_
            refine WL.y (Yl.move rfl) rfl ?_ -- t100
            refine WL.on rfl rfl ?_
            refine WL.y (Yl.toStr un22 un5 un9 rfl (Reads.of (r := rdR (.slice al bs.length cl) 1 bs.length (ints .u8 bs)) RdOf.rd' (by repeat (first | exact Take1.head | apply Take1.tail)))) rfl ?_ -- t101
            refine WL.on rfl rfl ?_
            refine WL.y (Yl.sEq rfl rfl) rfl ?_ -- t102
            refine WL.know (t := 102) (b' := true) rfl (by simp) ?_
            refine WL.y (Yl.pickT rfl rfl) rfl ?_ -- t103
            refine WL.y (Yl.move rfl) rfl ?_ -- t104
            refine WL.on rfl rfl ?_
            refine WL.callC (xs := []) (cap := []) rfl rfl en8 (by repeat (first | exact TakeL.nil | (apply TakeL.cons; · repeat (first | exact Take1.head | apply Take1.tail)))) (fun w hw => sworks_any w hw.left.here) rfl ?_ -- t105 hailer/hailerlaw09.works
            rintro ⟨⟩ -
            refine WL.y (Yl.pickT rfl rfl) rfl ?_ -- t106
            refine WL.y (Yl.assign rfl) rfl ?_ -- t6
            refine WL.nil ?_
            refine WC.ret ?_
            repeat (first | (with_reducible refine peelT ?_) | (with_reducible refine peelB ?_) | (with_reducible refine peelTX ?_) | (with_reducible refine peelBX ?_) | (with_reducible refine peelBN ?_) | (with_reducible refine peelBO rfl ?_))
            exact ret1 (.inr rfl) Try.results6 rfl fun w' h => ⟨(), trivial, rfl, h.sub (by repeat (first | exact TakeL.nil | (apply TakeL.cons; · repeat (first | exact Take1.head | apply Take1.tail))))⟩
        · refine WC.skip ?_
          refine WC.seq ?_
          refine WC.region ?_
          refine WL.y (Yl.move rfl) rfl ?_ -- t78
          refine WL.callC (xs := [.tmp 78]) (cap := []) rfl rfl en9 (by repeat (first | exact TakeL.nil | (apply TakeL.cons; · repeat (first | exact Take1.head | apply Take1.tail)))) (fun w hw => stakeT_any bs (.slice al bs.length cl) hB (by omega) w (hw.src (A := []) (r := rdR (.slice al bs.length cl) 1 bs.length (ints .u8 bs)) RdOf.rd' (by repeat (first | exact Take1.head | apply Take1.tail))) hw.left.here) rfl ?_ -- t79 hailer/sign.Take
          rintro ⟨r79, a79, c79⟩ hr79
          dsimp only at hr79 ⊢
          have hok79 := at_ok hokB a79 c79
          refine WL.y (Yl.move rfl) rfl ?_ -- t77
          refine WL.y (Yl.extract rfl rfl) rfl ?_ -- t80
          refine WL.y (Yl.extract rfl rfl) rfl ?_ -- t81
          refine WL.to (To.alloc (cs := Sg.zero.cells) zr34 rfl) rfl ?_ -- t15
          intro b15
          refine WL.sto (Sto.agg sz34 rfl rfl (by repeat (first | exact Take1.head | apply Take1.tail)) (Sg.ones _) (Sg.len hok79) (by rfl) (Sg.all rfl _)) (fun _ h => nomatch h) ?_ -- st 4
          refine WL.y (Yl.assign rfl) rfl ?_ -- t16
          refine WL.nil ?_
          refine WC.seq ?_
          refine WC.seq ?_
          refine WC.region ?_
          refine WL.y (Yl.move rfl) rfl ?_ -- t82
          refine WL.y (Yl.neq rfl rfl) rfl ?_ -- t83
          refine WL.nil ?_
          refine WC.condD rfl (fun g83 => ?_) (fun g83 => ?_)
          · refine WC.seq ?_
            refine WC.region ?_
            refine WL.y (Yl.loadN ag34 rfl (by repeat (first | exact Take1.head | apply Take1.tail)) (fitLe (by rw [Sg.len hok79]; omega)) (Sg.call hok79)) rfl ?_ -- t84
            refine WL.y (Yl.build rfl (cs := Sg.zero.cells) (fun _ => by kernel_rfl)) rfl ?_ -- t85
            refine WL.callC (xs := [.tmp 84, .tmp 85]) (cap := []) rfl rfl en14 (by repeat (first | exact TakeL.nil | (apply TakeL.cons; · repeat (first | exact Take1.head | apply Take1.tail)))) (fun w hw => same_any _ _ hok79 zero_sg w (hw.src (A := []) hr79 (by repeat (first | exact Take1.head | apply Take1.tail))) RdS.nil8 hw.left.here) rfl ?_ -- t86 hailer/hailerref09.Same
            rintro ⟨⟩ -
            refine WL.know (t := 86) (b' := true) rfl (sameS_iff.2 (by have e := sigT_zero (bs := bs) (by cases h : (sigT bs).2 with | false => rfl | true => rw [h] at g83; exact absurd rfl g83); rw [e]; rfl)) ?_
            refine WL.y (Yl.move rfl) rfl ?_ -- t87
            refine WL.on rfl rfl ?_
            refine WL.callC (xs := []) (cap := []) rfl rfl en8 (by repeat (first | exact TakeL.nil | (apply TakeL.cons; · repeat (first | exact Take1.head | apply Take1.tail)))) (fun w hw => sworks_any w hw.left.here) rfl ?_ -- t88 hailer/hailerlaw09.works
            rintro ⟨⟩ -
            refine WL.y (Yl.pickT rfl rfl) rfl ?_ -- t89
            refine WL.y (Yl.assign rfl) rfl ?_ -- t6
            refine WL.nil ?_
            refine WC.ret ?_
            repeat (first | (with_reducible refine peelT ?_) | (with_reducible refine peelB ?_) | (with_reducible refine peelTX ?_) | (with_reducible refine peelBX ?_) | (with_reducible refine peelBN ?_) | (with_reducible refine peelBO rfl ?_))
            exact ret1 (.inr rfl) Try.results6 rfl fun w' h => ⟨(), trivial, rfl, h.sub (by repeat (first | exact TakeL.nil | (apply TakeL.cons; · repeat (first | exact Take1.head | apply Take1.tail))))⟩
          · refine WC.skip ?_
            refine WC.seq ?_
            have hbt : (sigT bs).2 = true := by
              cases h : (sigT bs).2 with
              | true => rfl
              | false => rw [h] at g83; exact absurd (show ¬ errT false = 0 by decide) g83
            obtain ⟨t0, ht0, hmt, hte⟩ := sigT_shp hbt
            have e1 : (sigT bs).1 = t0 := by rw [hte]
            have eB : sigB t0 = bs := sigB_shp hB ht0
            rw [e1] at hr79 hok79 ⊢
            refine WC.region ?_
            refine WL.y (Yl.loadN ag34 rfl (by repeat (first | exact Take1.head | apply Take1.tail)) (fitLe (by rw [Sg.len hok79]; omega)) (Sg.call hok79)) rfl ?_ -- t91
            refine WL.callC (xs := [.tmp 91]) (cap := []) rfl rfl en7 (by repeat (first | exact TakeL.nil | (apply TakeL.cons; · repeat (first | exact Take1.head | apply Take1.tail)))) (fun w hw => sput_any _ hok79 w (hw.src (A := []) hr79 (by repeat (first | exact Take1.head | apply Take1.tail))) hw.left.here) rfl ?_ -- t92 hailer/sign.Put
            rintro ⟨a92, c92⟩ -
            have eP : putS ({ t0 with da := a79, dc := c79 } : Sg) = bs := (putS_yes (s := { t0 with da := a79, dc := c79 }) hmt).trans eB
            have eE : errS ({ t0 with da := a79, dc := c79 } : Sg) = 0 := errS_yes (s := { t0 with da := a79, dc := c79 }) hmt
            dsimp only
            rw [eP, eE]
            refine WL.y (Yl.move rfl) rfl ?_ -- t90
            refine WL.y (Yl.extract rfl rfl) rfl ?_ -- t93
            refine WL.y (Yl.extract rfl rfl) rfl ?_ -- t94
            refine WL.y (Yl.assign rfl) rfl ?_ -- t17
            refine WL.y (Yl.assign rfl) rfl ?_ -- t16
            refine WL.nil ?_
            refine WC.seq ?_
            refine WC.region ?_
            refine WL.y (Yl.move rfl) rfl ?_ -- t95
            refine WL.y (Yl.eql rfl rfl) rfl ?_ -- t96
            refine WL.know (t := 96) (b' := true) rfl (by first | rfl | (simp; done) | (simp; omega)) ?_
            refine WL.y (Yl.move rfl) rfl ?_ -- t97
            refine WL.on rfl rfl ?_
            refine WL.y (Yl.move rfl) rfl ?_ -- t98
            refine WL.on rfl rfl ?_
            refine WL.y (Yl.toStr un22 un5 un9 rfl (Reads.of (r := ownR (.slice a92 bs.length c92) 5 1 bs.length (ints .u8 bs)) RdOf.own (by repeat (first | exact Take1.head | apply Take1.tail)))) rfl ?_ -- t99
            refine WL.on rfl rfl ?_
            refine WL.y (Yl.move rfl) rfl ?_ -- t100
            refine WL.on rfl rfl ?_
            refine WL.y (Yl.toStr un22 un5 un9 rfl (Reads.of (r := rdR (.slice al bs.length cl) 1 bs.length (ints .u8 bs)) RdOf.rd' (by repeat (first | exact Take1.head | apply Take1.tail)))) rfl ?_ -- t101
            refine WL.on rfl rfl ?_
            refine WL.y (Yl.sEq rfl rfl) rfl ?_ -- t102
            refine WL.know (t := 102) (b' := true) rfl (by simp) ?_
            refine WL.y (Yl.pickT rfl rfl) rfl ?_ -- t103
            refine WL.y (Yl.move rfl) rfl ?_ -- t104
            refine WL.on rfl rfl ?_
            refine WL.callC (xs := []) (cap := []) rfl rfl en8 (by repeat (first | exact TakeL.nil | (apply TakeL.cons; · repeat (first | exact Take1.head | apply Take1.tail)))) (fun w hw => sworks_any w hw.left.here) rfl ?_ -- t105 hailer/hailerlaw09.works
            rintro ⟨⟩ -
            refine WL.y (Yl.pickT rfl rfl) rfl ?_ -- t106
            refine WL.y (Yl.assign rfl) rfl ?_ -- t6
            refine WL.nil ?_
            refine WC.ret ?_
            repeat (first | (with_reducible refine peelT ?_) | (with_reducible refine peelB ?_) | (with_reducible refine peelTX ?_) | (with_reducible refine peelBX ?_) | (with_reducible refine peelBN ?_) | (with_reducible refine peelBO rfl ?_))
            exact ret1 (.inr rfl) Try.results6 rfl fun w' h => ⟨(), trivial, rfl, h.sub (by repeat (first | exact TakeL.nil | (apply TakeL.cons; · repeat (first | exact Take1.head | apply Take1.tail))))⟩
      · refine WC.skip ?_
        refine WC.seq ?_
        refine WC.region ?_
        refine WL.y (Yl.move rfl) rfl ?_ -- t78
        refine WL.callC (xs := [.tmp 78]) (cap := []) rfl rfl en9 (by repeat (first | exact TakeL.nil | (apply TakeL.cons; · repeat (first | exact Take1.head | apply Take1.tail)))) (fun w hw => stakeT_any bs (.slice al bs.length cl) hB (by omega) w (hw.src (A := []) (r := rdR (.slice al bs.length cl) 1 bs.length (ints .u8 bs)) RdOf.rd' (by repeat (first | exact Take1.head | apply Take1.tail))) hw.left.here) rfl ?_ -- t79 hailer/sign.Take
        rintro ⟨r79, a79, c79⟩ hr79
        dsimp only at hr79 ⊢
        have hok79 := at_ok hokB a79 c79
        refine WL.y (Yl.move rfl) rfl ?_ -- t77
        refine WL.y (Yl.extract rfl rfl) rfl ?_ -- t80
        refine WL.y (Yl.extract rfl rfl) rfl ?_ -- t81
        refine WL.to (To.alloc (cs := Sg.zero.cells) zr34 rfl) rfl ?_ -- t15
        intro b15
        refine WL.sto (Sto.agg sz34 rfl rfl (by repeat (first | exact Take1.head | apply Take1.tail)) (Sg.ones _) (Sg.len hok79) (by rfl) (Sg.all rfl _)) (fun _ h => nomatch h) ?_ -- st 4
        refine WL.y (Yl.assign rfl) rfl ?_ -- t16
        refine WL.nil ?_
        refine WC.seq ?_
        refine WC.seq ?_
        refine WC.region ?_
        refine WL.y (Yl.move rfl) rfl ?_ -- t82
        refine WL.y (Yl.neq rfl rfl) rfl ?_ -- t83
        refine WL.nil ?_
        refine WC.condD rfl (fun g83 => ?_) (fun g83 => ?_)
        · refine WC.seq ?_
          refine WC.region ?_
          refine WL.y (Yl.loadN ag34 rfl (by repeat (first | exact Take1.head | apply Take1.tail)) (fitLe (by rw [Sg.len hok79]; omega)) (Sg.call hok79)) rfl ?_ -- t84
          refine WL.y (Yl.build rfl (cs := Sg.zero.cells) (fun _ => by kernel_rfl)) rfl ?_ -- t85
          refine WL.callC (xs := [.tmp 84, .tmp 85]) (cap := []) rfl rfl en14 (by repeat (first | exact TakeL.nil | (apply TakeL.cons; · repeat (first | exact Take1.head | apply Take1.tail)))) (fun w hw => same_any _ _ hok79 zero_sg w (hw.src (A := []) hr79 (by repeat (first | exact Take1.head | apply Take1.tail))) RdS.nil8 hw.left.here) rfl ?_ -- t86 hailer/hailerref09.Same
          rintro ⟨⟩ -
          refine WL.know (t := 86) (b' := true) rfl (sameS_iff.2 (by have e := sigT_zero (bs := bs) (by cases h : (sigT bs).2 with | false => rfl | true => rw [h] at g83; exact absurd rfl g83); rw [e]; rfl)) ?_
          refine WL.y (Yl.move rfl) rfl ?_ -- t87
          refine WL.on rfl rfl ?_
          refine WL.callC (xs := []) (cap := []) rfl rfl en8 (by repeat (first | exact TakeL.nil | (apply TakeL.cons; · repeat (first | exact Take1.head | apply Take1.tail)))) (fun w hw => sworks_any w hw.left.here) rfl ?_ -- t88 hailer/hailerlaw09.works
          rintro ⟨⟩ -
          refine WL.y (Yl.pickT rfl rfl) rfl ?_ -- t89
          refine WL.y (Yl.assign rfl) rfl ?_ -- t6
          refine WL.nil ?_
          refine WC.ret ?_
          repeat (first | (with_reducible refine peelT ?_) | (with_reducible refine peelB ?_) | (with_reducible refine peelTX ?_) | (with_reducible refine peelBX ?_) | (with_reducible refine peelBN ?_) | (with_reducible refine peelBO rfl ?_))
          exact ret1 (.inr rfl) Try.results6 rfl fun w' h => ⟨(), trivial, rfl, h.sub (by repeat (first | exact TakeL.nil | (apply TakeL.cons; · repeat (first | exact Take1.head | apply Take1.tail))))⟩
        · refine WC.skip ?_
          refine WC.seq ?_
          have hbt : (sigT bs).2 = true := by
            cases h : (sigT bs).2 with
            | true => rfl
            | false => rw [h] at g83; exact absurd (show ¬ errT false = 0 by decide) g83
          obtain ⟨t0, ht0, hmt, hte⟩ := sigT_shp hbt
          have e1 : (sigT bs).1 = t0 := by rw [hte]
          have eB : sigB t0 = bs := sigB_shp hB ht0
          rw [e1] at hr79 hok79 ⊢
          refine WC.region ?_
          refine WL.y (Yl.loadN ag34 rfl (by repeat (first | exact Take1.head | apply Take1.tail)) (fitLe (by rw [Sg.len hok79]; omega)) (Sg.call hok79)) rfl ?_ -- t91
          refine WL.callC (xs := [.tmp 91]) (cap := []) rfl rfl en7 (by repeat (first | exact TakeL.nil | (apply TakeL.cons; · repeat (first | exact Take1.head | apply Take1.tail)))) (fun w hw => sput_any _ hok79 w (hw.src (A := []) hr79 (by repeat (first | exact Take1.head | apply Take1.tail))) hw.left.here) rfl ?_ -- t92 hailer/sign.Put
          rintro ⟨a92, c92⟩ -
          have eP : putS ({ t0 with da := a79, dc := c79 } : Sg) = bs := (putS_yes (s := { t0 with da := a79, dc := c79 }) hmt).trans eB
          have eE : errS ({ t0 with da := a79, dc := c79 } : Sg) = 0 := errS_yes (s := { t0 with da := a79, dc := c79 }) hmt
          dsimp only
          rw [eP, eE]
          refine WL.y (Yl.move rfl) rfl ?_ -- t90
          refine WL.y (Yl.extract rfl rfl) rfl ?_ -- t93
          refine WL.y (Yl.extract rfl rfl) rfl ?_ -- t94
          refine WL.y (Yl.assign rfl) rfl ?_ -- t17
          refine WL.y (Yl.assign rfl) rfl ?_ -- t16
          refine WL.nil ?_
          refine WC.seq ?_
          refine WC.region ?_
          refine WL.y (Yl.move rfl) rfl ?_ -- t95
          refine WL.y (Yl.eql rfl rfl) rfl ?_ -- t96
          refine WL.know (t := 96) (b' := true) rfl (by first | rfl | (simp; done) | (simp; omega)) ?_
          refine WL.y (Yl.move rfl) rfl ?_ -- t97
          refine WL.on rfl rfl ?_
          refine WL.y (Yl.move rfl) rfl ?_ -- t98
          refine WL.on rfl rfl ?_
          refine WL.y (Yl.toStr un22 un5 un9 rfl (Reads.of (r := ownR (.slice a92 bs.length c92) 5 1 bs.length (ints .u8 bs)) RdOf.own (by repeat (first | exact Take1.head | apply Take1.tail)))) rfl ?_ -- t99
          refine WL.on rfl rfl ?_
          refine WL.y (Yl.move rfl) rfl ?_ -- t100
          refine WL.on rfl rfl ?_
          refine WL.y (Yl.toStr un22 un5 un9 rfl (Reads.of (r := rdR (.slice al bs.length cl) 1 bs.length (ints .u8 bs)) RdOf.rd' (by repeat (first | exact Take1.head | apply Take1.tail)))) rfl ?_ -- t101
          refine WL.on rfl rfl ?_
          refine WL.y (Yl.sEq rfl rfl) rfl ?_ -- t102
          refine WL.know (t := 102) (b' := true) rfl (by simp) ?_
          refine WL.y (Yl.pickT rfl rfl) rfl ?_ -- t103
          refine WL.y (Yl.move rfl) rfl ?_ -- t104
          refine WL.on rfl rfl ?_
          refine WL.callC (xs := []) (cap := []) rfl rfl en8 (by repeat (first | exact TakeL.nil | (apply TakeL.cons; · repeat (first | exact Take1.head | apply Take1.tail)))) (fun w hw => sworks_any w hw.left.here) rfl ?_ -- t105 hailer/hailerlaw09.works
          rintro ⟨⟩ -
          refine WL.y (Yl.pickT rfl rfl) rfl ?_ -- t106
          refine WL.y (Yl.assign rfl) rfl ?_ -- t6
          refine WL.nil ?_
          refine WC.ret ?_
          repeat (first | (with_reducible refine peelT ?_) | (with_reducible refine peelB ?_) | (with_reducible refine peelTX ?_) | (with_reducible refine peelBX ?_) | (with_reducible refine peelBN ?_) | (with_reducible refine peelBO rfl ?_))
          exact ret1 (.inr rfl) Try.results6 rfl fun w' h => ⟨(), trivial, rfl, h.sub (by repeat (first | exact TakeL.nil | (apply TakeL.cons; · repeat (first | exact Take1.head | apply Take1.tail))))⟩
end Go.Proofs.Ytnmeoleahcnnkaa
