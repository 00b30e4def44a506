/- Rosters: the reference's change; whether two are one: the walks. -/
import Derived.Test.YtfdnnlcfolgegaaRosF
namespace Go.Proofs.Ytfdnnlcfolgegaa
open Go Go.RowKit

set_option maxRecDepth 100000 in
theorem change_any (inn : Bool) (r : Rs) (hr : r.ok) (ms l : List Dv) (lv : Value) (ho : DOk ms) (hlo : DOk l) (hsz : ms.length + l.length ≤ 1099511627776) (w : World) (hx : RdS w (fpL []) r.v 2 ms.length (vcs Dv.val ms)) (hy : RdS w (fpL []) lv 2 l.length (vcs Dv.val l)) (hw : OK w (fpL []) [] w) : Fn Try.prog 10 [.agg r.cells.toArray, lv, .bool inn] [] w (OutOk inn r ms l) (fun y => .tuple #[.agg (outRs inn r ms l y).cells.toArray, .int .i64 (codeF inn r.e ms l)])
      (fun y => [ownR y 31 2 (outMs inn r.e ms l).length (vcs Dv.val (outMs inn r.e ms l))]) := by
  have hg := hr.len
  obtain ⟨ao, cap, hv, hcap, hml⟩ := hx.rd.form
  obtain ⟨bo, cap2, rfl, hcap2, hml2⟩ := hy.rd.form
  have a16 := Rs.at16 hg
  have a17 := Rs.at17 hg
  have rall : (r.cells.drop 0).take 18 = r.cells := by rw [List.drop_zero, List.take_of_length_le (by rw [Rs.len18 hg]; omega)]
  refine enterF Try.func10 rfl Try.ntmps10 rfl hw ?_
  refine WC.seq ?_
  refine WC.region ?_
  refine WL.to (To.box (cs := r.cells) rfl rfl) rfl ?_ -- t3
  intro b3
  refine WL.to (To.alloc (cs := Rs.zero.cells) zr27 rfl) rfl ?_ -- t6
  intro b6
  refine WL.y (Yl.assign rfl) rfl ?_ -- t7
  refine WL.nil ?_
  refine WC.seq ?_
  refine WC.region ?_
  refine WL.y (Yl.loadN ag27 rfl (by repeat (first | exact Take1.head | apply Take1.tail)) (by rw [Rs.len18 hg]; rfl) rall) rfl ?_ -- t12
  refine WL.callC (xs := [.tmp 12]) (cap := []) rfl rfl en18 (by repeat (first | exact TakeL.nil | (apply TakeL.cons; · repeat (first | exact Take1.head | apply Take1.tail)))) (fun w hw => rmay_any r ms hg (by omega) ho w (hw.srcS (A := []) hx) hw.left.here) rfl ?_ -- t13 hailer/hailerref23.May
  rintro ⟨⟩ -
  refine WL.y (Yl.assign rfl) rfl ?_ -- t8
  refine WL.nil ?_
  refine WC.seq ?_
  refine WC.seq ?_
  refine WC.region ?_
  refine WL.y (Yl.assign rfl) rfl ?_ -- t9
  refine WL.nil ?_
  refine WC.block ?_
  refine WC.loop (α := Nat) (fun k => [(1, .slice bo l.length cap2), (2, .bool inn), (3, .pointer (some ⟨b3, 0, none⟩)), (6, .pointer (some ⟨b6, 0, none⟩)), (8, .bool (mayF r.e ms && !(l.take k).any Dv.big)), (9, .int .i64 (k : Int))]) (fun _ => [blkR b3 27 r.cells, blkR b6 27 Rs.zero.cells]) (fun k => k ≤ l.length) (fun k => l.length - k) 0 (Nat.zero_le _) ⟨(by refine Sub.cons rfl (Sub.cons rfl (Sub.cons rfl (Sub.cons rfl (Sub.cons ?_ (Sub.cons rfl Sub.nil))))); show some (Value.bool (mayF r.e ms)) = _; simp), _, (by repeat (first | exact TakeL.nil | (apply TakeL.cons; · repeat (first | exact Take1.head | apply Take1.tail))))⟩ ?_
  rintro k hk
  refine WC.seq ?_
  refine WC.seq ?_
  refine WC.region ?_
  refine WL.y (Yl.move rfl) rfl ?_ -- t14
  refine WL.y (Yl.move rfl) rfl ?_ -- t15
  refine WL.y (Yl.len un25 rfl) rfl ?_ -- t16
  refine WL.y (Yl.lss rfl rfl) rfl ?_ -- t17
  refine WL.nil ?_
  refine WC.condD rfl (fun g17 => ?_) (fun g17 => ?_)
  · refine WC.skip ?_
    refine WC.seq ?_
    refine WC.block ?_
    obtain ⟨d, hdd⟩ : ∃ d, l[k]? = some d := ⟨_, List.getElem?_eq_getElem (by omega)⟩
    refine WC.region ?_
    refine WL.y (Yl.move rfl) rfl ?_ -- t20
    refine WL.y (Yl.move rfl) rfl ?_ -- t21
    refine WL.both (t := 21) rfl (fun g21 => ?_) (fun g21 => ?_)
    · refine WL.on rfl rfl ?_
      refine WL.y (Yl.move rfl) rfl ?_ -- t22
      refine WL.on rfl rfl ?_
      refine WL.y (Yl.move rfl) rfl ?_ -- t23
      refine WL.on rfl rfl ?_
      refine WL.y (Yl.index un25 sz31 rfl rfl (Reads.s hy) rfl (by omega)) rfl ?_ -- t24
      refine WL.on rfl rfl ?_
      refine WL.y (Yl.loadV (j := k) (u := d) dvV dvAll rfl (Reads.s hy) rfl hdd) rfl ?_
      refine WL.on rfl rfl ?_
      refine WL.callC (xs := [.tmp 25]) (cap := []) rfl rfl en36 (by repeat (first | exact TakeL.nil | (apply TakeL.cons; · repeat (first | exact Take1.head | apply Take1.tail)))) (fun w hw => rsmall_any d w hw.left.here) rfl ?_ -- t26 hailer/hailerref23.small
      rintro ⟨⟩ -
      refine WL.y (Yl.pickT rfl rfl) rfl ?_ -- t27
      refine WL.say (t := 27) (v' := .bool (mayF r.e ms && !(l.take (k + 1)).any Dv.big)) rfl (by rw [← take_snoc _ _ _ hdd, List.any_append]; simp only [Bool.and_eq_true, Bool.not_eq_true'] at g21; rw [g21.1, g21.2]; simp) ?_
      refine WL.y (Yl.assign rfl) rfl ?_ -- t8
      refine WL.nil ?_
      refine WC.region ?_
      refine WL.y (Yl.move rfl) rfl ?_ -- t18
      refine WL.y (Yl.add rfl rfl (IntWalk.i64_in _ (by omega))) rfl ?_ -- t19
      refine WL.y (Yl.assign rfl) rfl ?_ -- t9
      refine WL.nil ?_
      exact ⟨rfl, k + 1, by omega, by omega, (by repeat (first | exact Sub.nil | refine Sub.cons rfl ?_)), _, (by repeat (first | exact TakeL.nil | (apply TakeL.cons; · repeat (first | exact Take1.head | apply Take1.tail))))⟩
    · refine WL.off rfl rfl rfl rfl ?_ -- t22
      refine WL.off rfl rfl rfl rfl ?_ -- t23
      refine WL.off rfl rfl rfl rfl ?_ -- t24
      refine WL.off rfl rfl rfl rfl ?_ -- t25
      refine WL.off rfl rfl rfl rfl ?_ -- t26
      refine WL.y (Yl.pickF rfl rfl) rfl ?_ -- t27
      refine WL.say (t := 27) (v' := .bool (mayF r.e ms && !(l.take (k + 1)).any Dv.big)) rfl (by rw [← take_snoc _ _ _ hdd, List.any_append]; revert g21; cases mayF r.e ms <;> cases (l.take k).any Dv.big <;> simp) ?_
      refine WL.y (Yl.assign rfl) rfl ?_ -- t8
      refine WL.nil ?_
      refine WC.region ?_
      refine WL.y (Yl.move rfl) rfl ?_ -- t18
      refine WL.y (Yl.add rfl rfl (IntWalk.i64_in _ (by omega))) rfl ?_ -- t19
      refine WL.y (Yl.assign rfl) rfl ?_ -- t9
      refine WL.nil ?_
      exact ⟨rfl, k + 1, by omega, by omega, (by repeat (first | exact Sub.nil | refine Sub.cons rfl ?_)), _, (by repeat (first | exact TakeL.nil | (apply TakeL.cons; · repeat (first | exact Take1.head | apply Take1.tail))))⟩
  · refine WC.exit ?_
    refine WC.seq ?_
    refine WC.seq ?_
    refine WC.region ?_
    have hkn : k = l.length := by omega
    subst hkn
    rw [List.take_length]
    refine WL.y (Yl.move rfl) rfl ?_ -- t28
    refine WL.y (Yl.not rfl) rfl ?_ -- t29
    refine WL.nil ?_
    refine WC.cond rfl (fun g29 => ?_) (fun g29 => ?_)
    · refine WC.seq ?_
      refine WC.region ?_
      refine WL.y (Yl.build rfl (cs := Rs.zero.cells) (fun _ => by kernel_rfl)) rfl ?_ -- t30
      refine WL.sto (Sto.agg sz27 rfl rfl (by repeat (first | exact Take1.head | apply Take1.tail)) (Rs.one rfl) rfl (by rfl) (Rs.put (r := Rs.zero) (q := Rs.zero) rfl)) (fun _ h => nomatch h) ?_ -- st 1
      refine WL.y (Yl.assign rfl) rfl ?_ -- t7
      refine WL.nil ?_
      refine WC.ret ?_
      repeat (first | (with_reducible refine peelT ?_) | (with_reducible refine peelB ?_) | (with_reducible refine peelTX ?_) | (with_reducible refine peelBX ?_) | (with_reducible refine peelBN ?_) | (with_reducible refine peelBO rfl ?_))
      have hc : codeF inn r.e ms l = 2 := by unfold codeF; rw [g29]; rfl
      refine retC2 (cs := Rs.zero.cells) (.inr rfl) Try.results10 ag27 rfl rfl (by repeat (first | exact Take1.head | apply Take1.tail)) (Rs.len18 rfl) fun w' h => ⟨.slice none 0 0, ⟨⟨_, _, _, rfl⟩, by unfold outRs; rw [hc]; rfl⟩, by unfold outRs; rw [hc]; rfl, ?_⟩
      rw [show outMs inn r.e ms l = [] by unfold outMs; rw [hc]; rfl]
      exact (h.addNil 31 2).sub (by repeat (first | exact TakeL.nil | (apply TakeL.cons; · repeat (first | exact Take1.head | apply Take1.tail))))
    · refine WC.skip ?_
      refine WC.seq ?_
      simp only [Bool.not_eq_false', Bool.and_eq_true, Bool.not_eq_true'] at g29
      obtain ⟨hmay, hsm⟩ := g29
      have hm0 := (mayF_iff ho).1 hmay
      have hgood := hm0.2.2.2.2
      have hsmall := small_iff.1 hm0.2.2.2.1
      have hlsm := (small_iff.1 hsm).s
      have hcode : codeF inn r.e ms l = if (runF inn ms l).1 ≠ 0 then (runF inn ms l).1 else if r.e = 1099511627776 then 7 else 0 := by unfold codeF; rw [hmay, hsm]; rfl
      refine WC.region ?_
      refine WL.y (Yl.loadN ag27 rfl (by repeat (first | exact Take1.head | apply Take1.tail)) (by rw [Rs.len18 hg]; rfl) rall) rfl ?_ -- t31
      refine WL.callC (xs := [.tmp 31]) (cap := []) rfl rfl en37 (by repeat (first | exact TakeL.nil | (apply TakeL.cons; · repeat (first | exact Take1.head | apply Take1.tail)))) (fun w hw => rset_any r ms hg (by omega) ho hsmall w (hw.srcS (A := []) hx) hw.left.here) rfl ?_ -- t32 hailer/hailerref23.Set
      rintro b32 -
      refine WL.y (Yl.assign rfl) rfl ?_ -- t10
      refine WL.nil ?_
      refine WC.seq ?_
      refine WC.seq ?_
      refine WC.region ?_
      refine WL.y (Yl.assign rfl) rfl ?_ -- t11
      refine WL.nil ?_
      refine WC.block ?_
      refine WC.loop (α := Nat × List Dv) (fun k => [(1, .slice bo l.length cap2), (2, .bool inn), (3, .pointer (some ⟨b3, 0, none⟩)), (6, .pointer (some ⟨b6, 0, none⟩)), (10, .slice (some ⟨b32, 0, none⟩) 32 32), (11, .int .i64 (k.1 : Int))]) (fun k => [blkR b3 27 r.cells, blkR b6 27 Rs.zero.cells, ownR (.slice (some ⟨b32, 0, none⟩) 32 32) 4 1 32 (bv (sb (inPl k.2)))])
        (fun k => k.1 ≤ l.length ∧ Good k.2 ∧ Small k.2 ∧ runF inn ms l = runF inn k.2 (l.drop k.1)) (fun k => l.length - k.1) (0, ms) ⟨Nat.zero_le _, hgood, hsmall, rfl⟩ ⟨(by repeat (first | exact Sub.nil | refine Sub.cons rfl ?_)), _, (by repeat (first | exact TakeL.nil | (apply TakeL.cons; · repeat (first | exact Take1.head | apply Take1.tail))))⟩ ?_
      rintro ⟨k, cur⟩ ⟨hk, hgc, hsc, hrun⟩
      dsimp only at hk hgc hsc hrun ⊢
      refine WC.seq ?_
      refine WC.seq ?_
      refine WC.region ?_
      refine WL.y (Yl.move rfl) rfl ?_ -- t33
      refine WL.y (Yl.move rfl) rfl ?_ -- t34
      refine WL.y (Yl.len un25 rfl) rfl ?_ -- t35
      refine WL.y (Yl.lss rfl rfl) rfl ?_ -- t36
      refine WL.nil ?_
      refine WC.condD rfl (fun g36 => ?_) (fun g36 => ?_)
      · refine WC.skip ?_
        refine WC.seq ?_
        refine WC.block ?_
        refine WC.seq ?_
        refine WC.seq ?_
        obtain ⟨d, hdd⟩ : ∃ d, l[k]? = some d := ⟨_, List.getElem?_eq_getElem (by omega)⟩
        have hdo := hlo d (List.mem_of_getElem? hdd)
        have hdb := hlsm d (List.mem_of_getElem? hdd)
        have hpl := pl_lt hdo hdb
        have hin := inPl_in hgc.ok hsc hdo hdb
        have hdr : l.drop k = d :: l.drop (k + 1) := by
          obtain ⟨q1, q2⟩ := List.getElem?_eq_some_iff.1 hdd
          rw [List.drop_eq_getElem_cons q1, q2]
        have hstep : runF inn cur (l.drop k) = if errF inn cur d ≠ 0 then (errF inn cur d, []) else runF inn (nxtF inn cur d) (l.drop (k + 1)) := by rw [hdr]; rfl
        refine WC.region ?_
        refine WL.y (Yl.move rfl) rfl ?_ -- t39
        refine WL.y (Yl.move rfl) rfl ?_ -- t40
        refine WL.y (Yl.move rfl) rfl ?_ -- t41
        refine WL.y (Yl.index un25 sz31 rfl rfl (Reads.s hy) rfl (by omega)) rfl ?_ -- t42
        refine WL.y (Yl.loadV (j := k) (u := d) dvV dvAll rfl (Reads.s hy) rfl hdd) rfl ?_
        refine WL.callC (xs := [.tmp 43]) (cap := []) rfl rfl en26 (by repeat (first | exact TakeL.nil | (apply TakeL.cons; · repeat (first | exact Take1.head | apply Take1.tail)))) (fun w hw => rplace_any d hdo w hw.left.here) rfl ?_ -- t44 hailer/hailerref23.Place
        rintro ⟨⟩ -
        refine WL.y (Yl.index un68 sz4 rfl rfl (Reads.of RdOf.own (by repeat (first | exact Take1.head | apply Take1.tail))) rfl (by omega)) rfl ?_ -- t45
        refine WL.y (Yl.loadE (j := d.pl) on4 rfl (Reads.of RdOf.own (by repeat (first | exact Take1.head | apply Take1.tail))) (bv_get (sb_get hpl))) rfl ?_
        refine WL.y (Yl.move rfl) rfl ?_ -- t47
        refine WL.y (Yl.bEq un4 rfl rfl) rfl ?_ -- t48
        refine WL.say (t := 48) (v' := .bool (inF cur d == inn)) rfl (by rw [hin]) ?_
        refine WL.nil ?_
        refine WC.cond rfl (fun g48 => ?_) (fun g48 => ?_)
        · refine WC.seq ?_
          refine WC.seq ?_
          refine WC.region ?_
          refine WL.y (Yl.move rfl) rfl ?_ -- t49
          refine WL.nil ?_
          refine WC.cond rfl (fun g49 => ?_) (fun g49 => ?_)
          · refine WC.seq ?_
            refine WC.region ?_
            refine WL.y (Yl.build rfl (cs := Rs.zero.cells) (fun _ => by kernel_rfl)) rfl ?_ -- t50
            refine WL.sto (Sto.agg sz27 rfl rfl (by repeat (first | exact Take1.head | apply Take1.tail)) (Rs.one rfl) rfl (by rfl) (Rs.put (r := Rs.zero) (q := Rs.zero) rfl)) (fun _ h => nomatch h) ?_ -- st 2
            refine WL.y (Yl.assign rfl) rfl ?_ -- t7
            refine WL.nil ?_
            refine WC.ret ?_
            repeat (first | (with_reducible refine peelT ?_) | (with_reducible refine peelB ?_) | (with_reducible refine peelTX ?_) | (with_reducible refine peelBX ?_) | (with_reducible refine peelBN ?_) | (with_reducible refine peelBO rfl ?_))
            subst g49
            have hin2 : inF cur d = true := by simpa using g48
            have he : errF true cur d = 6 := by unfold errF; rw [hin2]; rfl
            have hc : codeF true r.e ms l = 6 := by rw [hcode, hrun, hstep, he]; simp
            refine retC2 (cs := Rs.zero.cells) (.inr rfl) Try.results10 ag27 rfl rfl (by repeat (first | exact Take1.head | apply Take1.tail)) (Rs.len18 rfl) fun w' h => ⟨.slice none 0 0, ⟨⟨_, _, _, rfl⟩, by unfold outRs; rw [hc]; rfl⟩, by unfold outRs; rw [hc]; rfl, ?_⟩
            rw [show outMs true r.e ms l = [] by unfold outMs; rw [hc]; rfl]
            exact (h.addNil 31 2).sub (by repeat (first | exact TakeL.nil | (apply TakeL.cons; · repeat (first | exact Take1.head | apply Take1.tail))))
          · refine WC.skip ?_
            refine WC.seq ?_
            refine WC.region ?_
            refine WL.y (Yl.build rfl (cs := Rs.zero.cells) (fun _ => by kernel_rfl)) rfl ?_ -- t51
            refine WL.sto (Sto.agg sz27 rfl rfl (by repeat (first | exact Take1.head | apply Take1.tail)) (Rs.one rfl) rfl (by rfl) (Rs.put (r := Rs.zero) (q := Rs.zero) rfl)) (fun _ h => nomatch h) ?_ -- st 3
            refine WL.y (Yl.assign rfl) rfl ?_ -- t7
            refine WL.nil ?_
            refine WC.ret ?_
            repeat (first | (with_reducible refine peelT ?_) | (with_reducible refine peelB ?_) | (with_reducible refine peelTX ?_) | (with_reducible refine peelBX ?_) | (with_reducible refine peelBN ?_) | (with_reducible refine peelBO rfl ?_))
            subst g49
            have hin2 : inF cur d = false := by simpa using g48
            have he : errF false cur d = 4 := by unfold errF; rw [hin2]; rfl
            have hc : codeF false r.e ms l = 4 := by rw [hcode, hrun, hstep, he]; simp
            refine retC2 (cs := Rs.zero.cells) (.inr rfl) Try.results10 ag27 rfl rfl (by repeat (first | exact Take1.head | apply Take1.tail)) (Rs.len18 rfl) fun w' h => ⟨.slice none 0 0, ⟨⟨_, _, _, rfl⟩, by unfold outRs; rw [hc]; rfl⟩, by unfold outRs; rw [hc]; rfl, ?_⟩
            rw [show outMs false r.e ms l = [] by unfold outMs; rw [hc]; rfl]
            exact (h.addNil 31 2).sub (by repeat (first | exact TakeL.nil | (apply TakeL.cons; · repeat (first | exact Take1.head | apply Take1.tail))))
        · refine WC.skip ?_
          have hne : inF cur d ≠ inn := by simpa using g48
          have he : errF inn cur d = 0 := by unfold errF; rw [if_neg hne]
          refine WC.region ?_
          refine WL.y (Yl.move rfl) rfl ?_ -- t52
          refine WL.y (Yl.move rfl) rfl ?_ -- t53
          refine WL.y (Yl.move rfl) rfl ?_ -- t54
          refine WL.y (Yl.index un25 sz31 rfl rfl (Reads.s hy) rfl (by omega)) rfl ?_ -- t55
          refine WL.y (Yl.loadV (j := k) (u := d) dvV dvAll rfl (Reads.s hy) rfl hdd) rfl ?_
          refine WL.callC (xs := [.tmp 56]) (cap := []) rfl rfl en26 (by repeat (first | exact TakeL.nil | (apply TakeL.cons; · repeat (first | exact Take1.head | apply Take1.tail)))) (fun w hw => rplace_any d hdo w hw.left.here) rfl ?_ -- t57 hailer/hailerref23.Place
          rintro ⟨⟩ -
          refine WL.y (Yl.move rfl) rfl ?_ -- t58
          refine WL.y (Yl.index un68 sz4 rfl rfl (Reads.of RdOf.own (by repeat (first | exact Take1.head | apply Take1.tail))) rfl (by omega)) rfl ?_ -- t59
          refine WL.sto (Sto.elem (j := d.pl) (u := .bool inn) sz4 rfl rfl (by repeat (first | exact Take1.head | apply Take1.tail)) rfl (by omega) (cs' := bv (sb (inPl (nxtF inn cur d)))) (by rw [bv_set, sb_set hpl, set_step hgc hsc hdo hdb hne])) (fun _ h => nomatch h) ?_
          refine WL.nil ?_
          refine WC.region ?_
          refine WL.y (Yl.move rfl) rfl ?_ -- t37
          refine WL.y (Yl.add rfl rfl (IntWalk.i64_in _ (by omega))) rfl ?_ -- t38
          refine WL.y (Yl.assign rfl) rfl ?_ -- t11
          refine WL.nil ?_
          exact ⟨rfl, (k + 1, nxtF inn cur d), ⟨by dsimp only; omega, nxt_good hgc hdo, nxt_small hgc hsc hdb, by rw [hrun, hstep, if_neg (by rw [he]; simp)]⟩, by dsimp only; omega, (by repeat (first | exact Sub.nil | refine Sub.cons rfl ?_)), _, (by repeat (first | exact TakeL.nil | (apply TakeL.cons; · repeat (first | exact Take1.head | apply Take1.tail))))⟩
      · refine WC.exit ?_
        refine WC.seq ?_
        refine WC.seq ?_
        have hkn : k = l.length := by omega
        have hrun2 : runF inn ms l = (0, cur) := by rw [hrun, hkn, List.drop_length]; rfl
        rw [hrun2] at hcode
        have hls := list_set hgc hsc
        refine WC.region ?_
        refine WL.y (Yl.field fo27_1 rfl) rfl ?_ -- t60
        refine WL.y (Yl.load on24 rfl (by repeat (first | exact Take1.head | apply Take1.tail)) a16) rfl ?_ -- t61
        refine WL.y (Yl.eql rfl rfl) rfl ?_ -- t62
        refine WL.nil ?_
        refine WC.condD rfl (fun g62 => ?_) (fun g62 => ?_)
        · refine WC.seq ?_
          refine WC.region ?_
          refine WL.y (Yl.build rfl (cs := Rs.zero.cells) (fun _ => by kernel_rfl)) rfl ?_ -- t63
          refine WL.sto (Sto.agg sz27 rfl rfl (by repeat (first | exact Take1.head | apply Take1.tail)) (Rs.one rfl) rfl (by rfl) (Rs.put (r := Rs.zero) (q := Rs.zero) rfl)) (fun _ h => nomatch h) ?_ -- st 5
          refine WL.y (Yl.assign rfl) rfl ?_ -- t7
          refine WL.nil ?_
          refine WC.ret ?_
          repeat (first | (with_reducible refine peelT ?_) | (with_reducible refine peelB ?_) | (with_reducible refine peelTX ?_) | (with_reducible refine peelBX ?_) | (with_reducible refine peelBN ?_) | (with_reducible refine peelBO rfl ?_))
          have hc : codeF inn r.e ms l = 7 := by rw [hcode, if_neg (by simp), if_pos g62]
          refine retC2 (cs := Rs.zero.cells) (.inr rfl) Try.results10 ag27 rfl rfl (by repeat (first | exact Take1.head | apply Take1.tail)) (Rs.len18 rfl) fun w' h => ⟨.slice none 0 0, ⟨⟨_, _, _, rfl⟩, by unfold outRs; rw [hc]; rfl⟩, by unfold outRs; rw [hc]; rfl, ?_⟩
          rw [show outMs inn r.e ms l = [] by unfold outMs; rw [hc]; rfl]
          exact (h.addNil 31 2).sub (by repeat (first | exact TakeL.nil | (apply TakeL.cons; · repeat (first | exact Take1.head | apply Take1.tail))))
        · refine WC.skip ?_
          refine WC.seq ?_
          refine WC.drawAny (Hs := [blkR b3 27 r.cells]) mixed (by kernel_rfl) ⟨_, (by repeat (first | exact TakeL.nil | (apply TakeL.cons; · repeat (first | exact Take1.head | apply Take1.tail))))⟩ ?_
          refine WD.take 0 rfl (by kernel_rfl) (by kernel_rfl) (by kernel_rfl) rfl rfl (Yl.field fo27_0 rfl) rfl ?_ -- t64
          refine WD.take 1 rfl (by kernel_rfl) (by kernel_rfl) (by kernel_rfl) rfl rfl (Yl.loadN ag23 rfl (by repeat (first | exact Take1.head | apply Take1.tail)) (by rw [Rs.len18 hg]; rfl) (Rs.grp hg)) rfl ?_ -- t65
          refine WD.take 2 rfl (by kernel_rfl) (by kernel_rfl) (by kernel_rfl) rfl rfl (Yl.field fo27_1 rfl) rfl ?_ -- t66
          refine WD.take 3 rfl (by kernel_rfl) (by kernel_rfl) (by kernel_rfl) rfl rfl (Yl.load on24 rfl (by repeat (first | exact Take1.head | apply Take1.tail)) a16) rfl ?_ -- t67
          refine WD.take 4 rfl (by kernel_rfl) (by kernel_rfl) (by kernel_rfl) rfl rfl (Yl.add rfl rfl rfl) rfl ?_ -- t68
          refine WD.say (t := 68) (v' := .int .u64 (r.e + 1)) rfl (by rw [u64_in _ (by omega)]) ?_
          refine WD.take 5 rfl (by kernel_rfl) (by kernel_rfl) (by kernel_rfl) rfl rfl (Yl.move rfl) rfl ?_ -- t69
          refine WD.one 6 (by kernel_rfl) ?_
          refine WO.callC (xs := [.tmp 69]) (cap := []) rfl .no rfl rfl en38 (by repeat (first | exact TakeL.nil | (apply TakeL.cons; · repeat (first | exact Take1.head | apply Take1.tail)))) (fun w hw => rlist_any (inPl cur) _ w (hw.src (A := []) RdOf.own (by repeat (first | exact Take1.head | apply Take1.tail))) hw.left.here) rfl (fun _ => ⟨_, (by repeat (first | exact TakeL.nil | (apply TakeL.cons; · repeat (first | exact Take1.head | apply Take1.tail))))⟩) ?_ -- t70 hailer/hailerref23.List
          intro y70 hy70
          refine WD.take 7 rfl (by kernel_rfl) (by kernel_rfl) (by kernel_rfl) rfl rfl (Yl.build rfl (cs := (Rs.mk r.g (r.e + 1) y70).cells) (build_ro hg _ _ hy70)) rfl ?_ -- t71
          refine WD.one 8 (by kernel_rfl) ?_
          refine WO.sto rfl rfl .no (Sto.agg sz27 rfl rfl (by repeat (first | exact Take1.head | apply Take1.tail)) (Rs.one (sliceOne hy70)) (Rs.len18 hg) (by rfl) (Rs.put (r := Rs.zero) rfl)) ⟨_, (by repeat (first | exact TakeL.nil | (apply TakeL.cons; · repeat (first | exact Take1.head | apply Take1.tail))))⟩ ?_ -- st 6
          refine WD.take 9 rfl (by kernel_rfl) (by kernel_rfl) (by kernel_rfl) rfl rfl (Yl.assign rfl) rfl ?_ -- t7
          refine WD.done (by kernel_rfl) ?_
          refine WC.ret ?_
          repeat (first | (with_reducible refine peelT ?_) | (with_reducible refine peelB ?_) | (with_reducible refine peelTX ?_) | (with_reducible refine peelBX ?_) | (with_reducible refine peelBN ?_) | (with_reducible refine peelBO rfl ?_))
          have hc : codeF inn r.e ms l = 0 := by rw [hcode, if_neg (by simp), if_neg g62]
          refine retC2 (cs := (Rs.mk r.g (r.e + 1) y70).cells) (.inr rfl) Try.results10 ag27 rfl rfl (by repeat (first | exact Take1.head | apply Take1.tail)) (Rs.len18 hg) fun w' h => ⟨y70, ⟨hy70, by unfold outRs; rw [hc]; rfl⟩, by unfold outRs; rw [hc]; rfl, ?_⟩
          rw [show outMs inn r.e ms l = listF (inPl cur) 32 by unfold outMs; rw [hc, hrun2, hls]; rfl]
          exact h.sub (by repeat (first | exact TakeL.nil | (apply TakeL.cons; · repeat (first | exact Take1.head | apply Take1.tail))))

theorem flatC : Flat Try.prog 23 (List.replicate 16 (some .u8)) := Flat.mk' 5 (by decide) (by kernel_rfl) (by kernel_rfl)
theorem ints_eqV {k : IntKind} {xs ys : List Int} : eqV (ints k xs) (ints k ys) = decide (xs = ys) := by
  by_cases h : xs = ys
  · subst h; rw [eqV_self]; simp
  · rw [eqV_ne, decide_eq_false h]
    intro e
    apply h
    have hinj : ∀ {a b : List Int}, ints k a = ints k b → a = b := by
      intro a
      induction a with
      | nil => intro b hb; cases b with
        | nil => rfl
        | cons _ _ => simp [ints] at hb
      | cons x a ih => intro b hb; cases b with
        | nil => simp [ints] at hb
        | cons y b =>
          simp only [ints, List.map_cons, List.cons.injEq, Value.int.injEq, true_and] at hb
          rw [hb.1, ih hb.2]
    exact hinj e
set_option maxRecDepth 100000 in
theorem same_any (r q : Rs) (xs ys : List Dv) (hr : r.ok) (hq : q.ok) (hl : xs.length ≤ 1099511627776) (h1 : DOk xs) (h2 : DOk ys) (w : World) (hx : RdS w (fpL []) r.v 2 xs.length (vcs Dv.val xs)) (hy : RdS w (fpL []) q.v 2 ys.length (vcs Dv.val ys)) (hw : OK w (fpL []) [] w) :
    Fn Try.prog 11 [.agg r.cells.toArray, .agg q.cells.toArray] [] w (fun _ : Unit => True) (fun _ => .bool (decide (r.g = q.g) && decide (r.e = q.e) && decide (xs = ys))) (fun _ => []) := by
  have hg := hr.len
  have hg2 := hq.len
  obtain ⟨ao, cap, hv, hcap, hml⟩ := hx.rd.form
  obtain ⟨bo, cap2, hv2, hcap2, hml2⟩ := hy.rd.form
  have a16 := Rs.at16 hg
  have a17 := Rs.at17 hg
  have b16 := Rs.at16 hg2
  have b17 := Rs.at17 hg2
  rw [hv] at a17 hx
  rw [hv2] at b17 hy
  refine enterF Try.func11 rfl Try.ntmps11 rfl hw ?_
  refine WC.seq ?_
  refine WC.region ?_
  refine WL.to (To.box (cs := r.cells) rfl rfl) rfl ?_ -- t2
  intro b2
  refine WL.to (To.box (cs := q.cells) rfl rfl) rfl ?_ -- t3
  intro b3
  refine WL.y (Yl.assign rfl) rfl ?_ -- t4
  refine WL.nil ?_
  refine WC.midK [(5, .bool (decide (r.g = q.g) && decide (r.e = q.e) && decide (xs.length = ys.length)))] [blkR b2 27 r.cells, blkR b3 27 q.cells] ?_ ?_
  · refine WC.region ?_
    refine WL.y (Yl.field fo27_0 rfl) rfl ?_ -- t7
    refine WL.y (Yl.loadN ag23 rfl (by repeat (first | exact Take1.head | apply Take1.tail)) (by rw [Rs.len18 hg]; rfl) (Rs.grp hg)) rfl ?_ -- t8
    refine WL.y (Yl.field fo27_0 rfl) rfl ?_ -- t9
    refine WL.y (Yl.loadN ag23 rfl (by repeat (first | exact Take1.head | apply Take1.tail)) (by rw [Rs.len18 hg2]; rfl) (Rs.grp hg2)) rfl ?_ -- t10
    refine WL.y (Yl.eqA (xs := ints .u8 r.g) (ys := ints .u8 q.g) flatC rfl rfl (fitsB hg hr.b) (fitsB hg2 hq.b)) rfl ?_
    refine WL.say (t := 11) (v' := .bool (decide (r.g = q.g))) rfl (by rw [ints_eqV]) ?_
    refine WL.y (Yl.move rfl) rfl ?_ -- t12
    refine WL.both (t := 12) rfl (fun g12 => ?_) (fun g12 => ?_)
    · refine WL.on rfl rfl ?_
      refine WL.y (Yl.field fo27_1 rfl) rfl ?_ -- t13
      refine WL.on rfl rfl ?_
      refine WL.y (Yl.load on24 rfl (by repeat (first | exact Take1.head | apply Take1.tail)) a16) rfl ?_ -- t14
      refine WL.on rfl rfl ?_
      refine WL.y (Yl.field fo27_1 rfl) rfl ?_ -- t15
      refine WL.on rfl rfl ?_
      refine WL.y (Yl.load on24 rfl (by repeat (first | exact Take1.head | apply Take1.tail)) b16) rfl ?_ -- t16
      refine WL.on rfl rfl ?_
      refine WL.y (Yl.eql rfl rfl) rfl ?_ -- t17
      refine WL.y (Yl.pickT rfl rfl) rfl ?_ -- t18
      refine WL.y (Yl.move rfl) rfl ?_ -- t19
      refine WL.both (t := 19) rfl (fun g19 => ?_) (fun g19 => ?_)
      · refine WL.on rfl rfl ?_
        refine WL.y (Yl.field fo27_2 rfl) rfl ?_ -- t20
        refine WL.on rfl rfl ?_
        refine WL.y (Yl.load on25 rfl (by repeat (first | exact Take1.head | apply Take1.tail)) a17) rfl ?_ -- t21
        refine WL.on rfl rfl ?_
        refine WL.y (Yl.len un25 rfl) rfl ?_ -- t22
        refine WL.on rfl rfl ?_
        refine WL.y (Yl.field fo27_2 rfl) rfl ?_ -- t23
        refine WL.on rfl rfl ?_
        refine WL.y (Yl.load on25 rfl (by repeat (first | exact Take1.head | apply Take1.tail)) b17) rfl ?_ -- t24
        refine WL.on rfl rfl ?_
        refine WL.y (Yl.len un25 rfl) rfl ?_ -- t25
        refine WL.on rfl rfl ?_
        refine WL.y (Yl.eql rfl rfl) rfl ?_ -- t26
        refine WL.y (Yl.pickT rfl rfl) rfl ?_ -- t27
        refine WL.say (t := 27) (v' := .bool (decide (r.g = q.g) && decide (r.e = q.e) && decide (xs.length = ys.length))) rfl (by rw [g12, g19]; simp; omega) ?_
        refine WL.y (Yl.assign rfl) rfl ?_ -- t5
        refine WL.nil ?_
        exact ⟨rfl, (by repeat (first | exact Sub.nil | refine Sub.cons rfl ?_)), (by repeat (first | exact Sub.nil | refine Sub.cons rfl ?_)), _, (by repeat (first | exact TakeL.nil | (apply TakeL.cons; · repeat (first | exact Take1.head | apply Take1.tail))))⟩
      · refine WL.off rfl rfl rfl rfl ?_ -- t20
        refine WL.off rfl rfl rfl rfl ?_ -- t21
        refine WL.off rfl rfl rfl rfl ?_ -- t22
        refine WL.off rfl rfl rfl rfl ?_ -- t23
        refine WL.off rfl rfl rfl rfl ?_ -- t24
        refine WL.off rfl rfl rfl rfl ?_ -- t25
        refine WL.off rfl rfl rfl rfl ?_ -- t26
        refine WL.y (Yl.pickF rfl rfl) rfl ?_ -- t27
        refine WL.say (t := 27) (v' := .bool (decide (r.g = q.g) && decide (r.e = q.e) && decide (xs.length = ys.length))) rfl (by rw [g19]; simp) ?_
        refine WL.y (Yl.assign rfl) rfl ?_ -- t5
        refine WL.nil ?_
        exact ⟨rfl, (by repeat (first | exact Sub.nil | refine Sub.cons rfl ?_)), (by repeat (first | exact Sub.nil | refine Sub.cons rfl ?_)), _, (by repeat (first | exact TakeL.nil | (apply TakeL.cons; · repeat (first | exact Take1.head | apply Take1.tail))))⟩
    · refine WL.off rfl rfl rfl rfl ?_ -- t13
      refine WL.off rfl rfl rfl rfl ?_ -- t14
      refine WL.off rfl rfl rfl rfl ?_ -- t15
      refine WL.off rfl rfl rfl rfl ?_ -- t16
      refine WL.off rfl rfl rfl rfl ?_ -- t17
      refine WL.y (Yl.pickF rfl rfl) rfl ?_ -- t18
      refine WL.y (Yl.move rfl) rfl ?_ -- t19
      refine WL.off rfl rfl rfl rfl ?_ -- t20
      refine WL.off rfl rfl rfl rfl ?_ -- t21
      refine WL.off rfl rfl rfl rfl ?_ -- t22
      refine WL.off rfl rfl rfl rfl ?_ -- t23
      refine WL.off rfl rfl rfl rfl ?_ -- t24
      refine WL.off rfl rfl rfl rfl ?_ -- t25
      refine WL.off rfl rfl rfl rfl ?_ -- t26
      refine WL.y (Yl.pickF rfl rfl) rfl ?_ -- t27
      refine WL.say (t := 27) (v' := .bool (decide (r.g = q.g) && decide (r.e = q.e) && decide (xs.length = ys.length))) rfl (by rw [g12]; simp) ?_
      refine WL.y (Yl.assign rfl) rfl ?_ -- t5
      refine WL.nil ?_
      exact ⟨rfl, (by repeat (first | exact Sub.nil | refine Sub.cons rfl ?_)), (by repeat (first | exact Sub.nil | refine Sub.cons rfl ?_)), _, (by repeat (first | exact TakeL.nil | (apply TakeL.cons; · repeat (first | exact Take1.head | apply Take1.tail))))⟩
  · refine WC.seq ?_
    refine WC.seq ?_
    refine WC.region ?_
    refine WL.y (Yl.assign rfl) rfl ?_ -- t6
    refine WL.nil ?_
    refine WC.block ?_
    refine WC.loop (α := Nat × Bool) (fun k => [(2, .pointer (some ⟨b2, 0, none⟩)), (3, .pointer (some ⟨b3, 0, none⟩)), (5, .bool k.2), (6, .int .i64 (k.1 : Int))]) (fun k => [blkR b2 27 r.cells, blkR b3 27 q.cells]) (fun k => k.1 ≤ xs.length ∧ (k.2 = true → xs.length = ys.length) ∧ k.2 = (decide (r.g = q.g) && decide (r.e = q.e) && decide (xs.length = ys.length) && decide (xs.take k.1 = ys.take k.1))) (fun k => xs.length - k.1) (0, decide (r.g = q.g) && decide (r.e = q.e) && decide (xs.length = ys.length)) ⟨Nat.zero_le _, fun h => of_decide_eq_true (Bool.and_eq_true_iff.1 h).2, by simp⟩ ⟨(by repeat (first | exact Sub.nil | refine Sub.cons rfl ?_)), _, (by repeat (first | exact TakeL.nil | (apply TakeL.cons; · repeat (first | exact Take1.head | apply Take1.tail))))⟩ ?_
    rintro ⟨k, ok⟩ ⟨hk, hlen, hok⟩
    dsimp only at hk hlen hok ⊢
    refine WC.seq ?_
    refine WC.seq ?_
    refine WC.region ?_
    refine WL.y (Yl.move rfl) rfl ?_ -- t28
    refine WL.y (Yl.field fo27_2 rfl) rfl ?_ -- t29
    refine WL.y (Yl.load on25 rfl (by repeat (first | exact Take1.head | apply Take1.tail)) a17) rfl ?_ -- t30
    refine WL.y (Yl.len un25 rfl) rfl ?_ -- t31
    refine WL.y (Yl.lss rfl rfl) rfl ?_ -- t32
    refine WL.y (Yl.move rfl) rfl ?_ -- t33
    refine WL.both (t := 33) rfl (fun g33 => ?_) (fun g33 => ?_)
    · refine WL.on rfl rfl ?_
      refine WL.y (Yl.move rfl) rfl ?_ -- t34
      refine WL.y (Yl.pickT rfl rfl) rfl ?_ -- t35
      refine WL.nil ?_
      refine WC.cond rfl (fun g35 => ?_) (fun g35 => ?_)
      · refine WC.skip ?_
        refine WC.seq ?_
        refine WC.block ?_
        have hll := hlen g35
        have hlt : k < xs.length := by have := of_decide_eq_true g33; omega
        obtain ⟨x, hxx⟩ : ∃ x, xs[k]? = some x := ⟨_, List.getElem?_eq_getElem (by omega)⟩
        obtain ⟨y, hyy⟩ : ∃ y, ys[k]? = some y := ⟨_, List.getElem?_eq_getElem (by omega)⟩
        refine WC.drawTail 11 mixed (by kernel_rfl) ?_
        refine WH.y (Yl.field fo27_2 rfl) rfl ?_ -- t38
        refine WH.y (Yl.load on25 rfl (by repeat (first | exact Take1.head | apply Take1.tail)) a17) rfl ?_ -- t39
        refine WH.y (Yl.move rfl) rfl ?_ -- t40
        refine WH.y (Yl.index un25 sz31 rfl rfl (Reads.s hx) rfl (by omega)) rfl ?_ -- t41
        refine WH.y (Yl.loadV (j := k) (u := x) dvV dvAll rfl (Reads.s hx) rfl hxx) rfl ?_
        refine WH.y (Yl.field fo27_2 rfl) rfl ?_ -- t43
        refine WH.y (Yl.load on25 rfl (by repeat (first | exact Take1.head | apply Take1.tail)) b17) rfl ?_ -- t44
        refine WH.y (Yl.move rfl) rfl ?_ -- t45
        refine WH.y (Yl.index un25 sz31 rfl rfl (Reads.s hy) rfl (by omega)) rfl ?_ -- t46
        refine WH.y (Yl.loadV (j := k) (u := y) dvV dvAll rfl (Reads.s hy) rfl hyy) rfl ?_
        refine WH.y (Yl.eqA (xs := x.cells) (ys := y.cells) flatD rfl rfl (Dv.fits (h1 x (List.mem_of_getElem? hxx))) (Dv.fits (h2 y (List.mem_of_getElem? hyy)))) rfl ?_
        refine WH.say (t := 48) (v' := .bool (decide (x = y))) rfl (by rw [Dv.eqV]) ?_
        refine WH.nil ?_
        refine WP.y (Yl.assign rfl) rfl ?_ -- t5
        refine WP.nil ?_
        refine WC.region ?_
        refine WL.y (Yl.move rfl) rfl ?_ -- t36
        refine WL.y (Yl.add rfl rfl (IntWalk.i64_in _ (by omega))) rfl ?_ -- t37
        refine WL.y (Yl.assign rfl) rfl ?_ -- t6
        refine WL.nil ?_
        exact ⟨rfl, (k + 1, decide (x = y)), ⟨by dsimp only; omega, fun _ => hll, by
          rw [g35] at hok
          simp only [Bool.true_eq, Bool.and_eq_true, decide_eq_true_eq] at hok
          dsimp only
          rw [decide_eq_true hok.1.1.1, decide_eq_true hok.1.1.2, decide_eq_true hok.1.2, ← take_snoc _ _ _ hxx, ← take_snoc _ _ _ hyy, hok.2]
          simp⟩, by dsimp only; omega, (by repeat (first | exact Sub.nil | refine Sub.cons rfl ?_)), _, (by repeat (first | exact TakeL.nil | (apply TakeL.cons; · repeat (first | exact Take1.head | apply Take1.tail))))⟩
      · refine WC.exit ?_
        refine WC.seq ?_
        refine WC.region ?_
        refine WL.y (Yl.move rfl) rfl ?_ -- t49
        refine WL.y (Yl.assign rfl) rfl ?_ -- t4
        refine WL.nil ?_
        refine WC.ret ?_
        repeat (first | (with_reducible refine peelT ?_) | (with_reducible refine peelB ?_) | (with_reducible refine peelTX ?_) | (with_reducible refine peelBX ?_) | (with_reducible refine peelBN ?_) | (with_reducible refine peelBO rfl ?_))
        have hfin : ok = (decide (r.g = q.g) && decide (r.e = q.e) && decide (xs = ys)) := by
          cases hk0 : ok with
          | false =>
            rw [hk0] at hok
            by_cases e : xs = ys
            · subst e; simpa using hok
            · simp [e]
          | true =>
            have hll := hlen hk0
            have hkn : k = xs.length := by
              first
              | exact absurd (hk0.symm.trans g35) (by decide)
              | (have := of_decide_eq_false g33; omega)
            rw [hk0, hkn] at hok
            simp only [Bool.true_eq, Bool.and_eq_true, decide_eq_true_eq] at hok
            have e : xs = ys := by
              have := hok.2
              rwa [List.take_length, hll, List.take_length] at this
            rw [decide_eq_true hok.1.1.1, decide_eq_true hok.1.1.2, decide_eq_true e]; rfl
        exact ret1 (.inr rfl) Try.results11 rfl fun w' h => ⟨(), trivial, by rw [← hfin], h.sub (by repeat (first | exact TakeL.nil | (apply TakeL.cons; · repeat (first | exact Take1.head | apply Take1.tail))))⟩
    · refine WL.off rfl rfl rfl rfl ?_ -- t34
      refine WL.y (Yl.pickF rfl rfl) rfl ?_ -- t35
      refine WL.nil ?_
      refine WC.condF rfl (by first | rfl | (simp; done) | (simp; omega)) ?_
      refine WC.exit ?_
      refine WC.seq ?_
      refine WC.region ?_
      refine WL.y (Yl.move rfl) rfl ?_ -- t49
      refine WL.y (Yl.assign rfl) rfl ?_ -- t4
      refine WL.nil ?_
      refine WC.ret ?_
      repeat (first | (with_reducible refine peelT ?_) | (with_reducible refine peelB ?_) | (with_reducible refine peelTX ?_) | (with_reducible refine peelBX ?_) | (with_reducible refine peelBN ?_) | (with_reducible refine peelBO rfl ?_))
      have hfin : ok = (decide (r.g = q.g) && decide (r.e = q.e) && decide (xs = ys)) := by
        cases hk0 : ok with
        | false =>
          rw [hk0] at hok
          by_cases e : xs = ys
          · subst e; simpa using hok
          · simp [e]
        | true =>
          have hll := hlen hk0
          have hkn : k = xs.length := by
            first
            | exact absurd (hk0.symm.trans g35) (by decide)
            | (have := of_decide_eq_false g33; omega)
          rw [hk0, hkn] at hok
          simp only [Bool.true_eq, Bool.and_eq_true, decide_eq_true_eq] at hok
          have e : xs = ys := by
            have := hok.2
            rwa [List.take_length, hll, List.take_length] at this
          rw [decide_eq_true hok.1.1.1, decide_eq_true hok.1.1.2, decide_eq_true e]; rfl
      exact ret1 (.inr rfl) Try.results11 rfl fun w' h => ⟨(), trivial, by rw [← hfin], h.sub (by repeat (first | exact TakeL.nil | (apply TakeL.cons; · repeat (first | exact Take1.head | apply Take1.tail))))⟩
end Go.Proofs.Ytfdnnlcfolgegaa
