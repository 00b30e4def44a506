/- The reference's books: put, take: the walks. -/
import Derived.Test.YtmcdbjbkkejbbaaGreatMerR
namespace Go.Proofs.YtmcdbjbkkejbbaaGreat
open Go Go.RowKit
set_option maxRecDepth 100000 in
theorem putR_any (al : Option Addr) (cl : Nat) (xs : List Rc) (r : Rc) (hG : ROk xs) (hr : r.ok) (hl : xs.length ≤ 100000) (w : World) (hw : OK w (fpL [rdR (.slice al xs.length cl) 22 xs.length (vcs rcV xs)]) [rdR (.slice al xs.length cl) 22 xs.length (vcs rcV xs)] w) :
    Fn Tryz.prog 37 [.slice al xs.length cl, .agg r.cells.toArray] [rdR (.slice al xs.length cl) 22 xs.length (vcs rcV xs)] w (fun _ : Option Addr × Nat => True) (fun y => .slice y.1 (insF xs r).length y.2) (fun y => [ownR (.slice y.1 (insF xs r).length y.2) 33 22 (insF xs r).length (vcs rcV (insF xs r))]) := by
  have hr22 := Rc.cells_len hr.len
  obtain ⟨_, _, he, hcl, hml⟩ := (hw.get .head : Rd _ _ _ _ _).form
  cases he
  refine enterF Tryz.func37 rfl Tryz.ntmps37 rfl hw ?_
  refine WC.seq ?_
  refine WC.region ?_
  refine WL.to (To.box (cs := r.cells) rfl rfl) rfl ?_ -- t3
  intro b3
  refine WL.y (Yl.assign rfl) rfl ?_ -- t4
  refine WL.nil ?_
  refine WC.seq ?_
  refine WC.region ?_
  refine WL.y (Yl.assign rfl) rfl ?_ -- t5
  refine WL.nil ?_
  refine WC.midX (α := Nat) (fun a => [(0, .slice al xs.length cl), (3, .pointer (some ⟨b3, 0, none⟩)), (5, .int .i64 (a : Int))]) (fun _ => [rdR (.slice al xs.length cl) 22 xs.length (vcs rcV xs), blkR b3 33 r.cells]) (fun a => a ≤ xs.length ∧ posM xs r = a) ?_ ?_
  · refine WC.block ?_
    refine WC.loop (α := Nat) (fun a => [(0, .slice al xs.length cl), (3, .pointer (some ⟨b3, 0, none⟩)), (5, .int .i64 (a : Int))]) (fun _ => [rdR (.slice al xs.length cl) 22 xs.length (vcs rcV xs), blkR b3 33 r.cells]) (fun a => a ≤ xs.length ∧ ∀ (j : Nat) x, j < a → xs[j]? = some x → ordF x r < 0) (fun a => xs.length - a) 0 ⟨Nat.zero_le _, fun j p h => by omega⟩ ⟨(by repeat (first | exact Sub.nil | refine Sub.cons rfl ?_)), _, (by repeat (first | exact TakeL.nil | (apply TakeL.cons; · repeat (first | exact Take1.head | apply Take1.tail))))⟩ ?_
    rintro a ⟨ha, hlo⟩
    refine WC.seq ?_
    refine WC.seq ?_
    refine WC.drawAny (Hs := [rdR (.slice al xs.length cl) 22 xs.length (vcs rcV xs), blkR b3 33 r.cells]) mixed (by kernel_rfl) ⟨_, (by repeat (first | exact TakeL.nil | (apply TakeL.cons; · repeat (first | exact Take1.head | apply Take1.tail))))⟩ ?_
    refine WD.take 0 rfl (by kernel_rfl) (by kernel_rfl) (by kernel_rfl) rfl rfl (Yl.move rfl) rfl ?_ -- t6
    refine WD.take 1 rfl (by kernel_rfl) (by kernel_rfl) (by kernel_rfl) rfl rfl (Yl.move rfl) rfl ?_ -- t7
    refine WD.take 2 rfl (by kernel_rfl) (by kernel_rfl) (by kernel_rfl) rfl rfl (Yl.len un22 rfl) rfl ?_ -- t8
    refine WD.take 3 rfl (by kernel_rfl) (by kernel_rfl) (by kernel_rfl) rfl rfl (Yl.lss rfl rfl) rfl ?_ -- t9
    refine WD.take 4 rfl (by kernel_rfl) (by kernel_rfl) (by kernel_rfl) rfl rfl (Yl.move rfl) rfl ?_ -- t10
    refine WD.both (t := 10) rfl (fun g10 => ?_) (fun g10 => ?_)
    · refine WD.takeOn 5 rfl (by kernel_rfl) (by kernel_rfl) (by kernel_rfl) rfl rfl rfl rfl (Yl.move rfl) rfl ?_ -- t11
      refine WD.takeOn 6 rfl (by kernel_rfl) (by kernel_rfl) (by kernel_rfl) rfl rfl rfl rfl (Yl.move rfl) rfl ?_ -- t12
      have hal : a < xs.length := by simpa using g10
      obtain ⟨x, hxx⟩ : ∃ x, xs[a]? = some x := ⟨_, List.getElem?_eq_getElem hal⟩
      refine WD.takeOn 7 rfl (by kernel_rfl) (by kernel_rfl) (by kernel_rfl) rfl rfl rfl rfl (Yl.index un22 sz33 rfl rfl (Reads.of (r := rdR (.slice al xs.length cl) 22 xs.length (vcs rcV xs)) RdOf.rd' (by repeat (first | exact Take1.head | apply Take1.tail))) rfl (by omega)) rfl ?_ -- t13
      refine WD.takeOn 8 rfl (by kernel_rfl) (by kernel_rfl) (by kernel_rfl) rfl rfl rfl rfl (Yl.loadV (j := a) (u := x) vtR hG rfl (Reads.of (r := rdR (.slice al xs.length cl) 22 xs.length (vcs rcV xs)) RdOf.rd' (by repeat (first | exact Take1.head | apply Take1.tail))) rfl hxx) rfl ?_
      refine WD.takeOn 9 rfl (by kernel_rfl) (by kernel_rfl) (by kernel_rfl) rfl rfl rfl rfl (Yl.loadN ag33 rfl (by repeat (first | exact Take1.head | apply Take1.tail)) (leB (by rw [hr22]; omega)) (Rc.call hr.len)) rfl ?_ -- t15
      refine WD.one 10 (by kernel_rfl) ?_
      refine WO.callC (xs := [.tmp 14, .tmp 15]) (cap := []) rfl (.on rfl rfl) rfl rfl en68 (by repeat (first | exact TakeL.nil | (apply TakeL.cons; · repeat (first | exact Take1.head | apply Take1.tail)))) (fun w hw => less_any x r (hG.get hxx) hr w hw.left.here) rfl (fun _ => ⟨_, (by repeat (first | exact TakeL.nil | (apply TakeL.cons; · repeat (first | exact Take1.head | apply Take1.tail))))⟩) ?_ -- t16 hailer/hailerref36.less
      rintro ⟨⟩ -
      refine WD.take 11 rfl (by kernel_rfl) (by kernel_rfl) (by kernel_rfl) rfl rfl (Yl.pickT rfl rfl) rfl ?_ -- t17
      refine WD.done (by kernel_rfl) ?_
      refine WC.cond rfl (fun g17 => ?_) (fun g17 => ?_)
      · refine WC.skip ?_
        refine WC.block ?_
        refine WC.region ?_
        refine WL.y (Yl.move rfl) rfl ?_ -- t18
        refine WL.y (Yl.add rfl rfl (IntWalk.i64_in _ (by omega))) rfl ?_ -- t19
        refine WL.y (Yl.assign rfl) rfl ?_ -- t5
        refine WL.nil ?_
        exact ⟨rfl, a + 1, ⟨by omega, fun j q h1 h2 => by
          by_cases e : j = a
          · subst e
            rw [hxx] at h2
            cases h2
            simpa using g17
          · exact hlo j q (by omega) h2⟩, by omega, (by repeat (first | exact Sub.nil | refine Sub.cons rfl ?_)), _, (by repeat (first | exact TakeL.nil | (apply TakeL.cons; · repeat (first | exact Take1.head | apply Take1.tail))))⟩
      · refine WC.exit ?_
        exact ⟨rfl, a, ⟨ha, pos_of' ha hlo (fun q hq => by rw [hxx] at hq; cases hq; simpa using g17)⟩, (by repeat (first | exact Sub.nil | refine Sub.cons rfl ?_)), _, (by repeat (first | exact TakeL.nil | (apply TakeL.cons; · repeat (first | exact Take1.head | apply Take1.tail))))⟩
    · refine WD.takeOff 5 rfl (by kernel_rfl) (by kernel_rfl) (by kernel_rfl) rfl rfl rfl rfl rfl rfl ?_ -- t11
      refine WD.takeOff 6 rfl (by kernel_rfl) (by kernel_rfl) (by kernel_rfl) rfl rfl rfl rfl rfl rfl ?_ -- t12
      refine WD.takeOff 7 rfl (by kernel_rfl) (by kernel_rfl) (by kernel_rfl) rfl rfl rfl rfl rfl rfl ?_ -- t13
      refine WD.takeOff 8 rfl (by kernel_rfl) (by kernel_rfl) (by kernel_rfl) rfl rfl rfl rfl rfl rfl ?_ -- t14
      refine WD.takeOff 9 rfl (by kernel_rfl) (by kernel_rfl) (by kernel_rfl) rfl rfl rfl rfl rfl rfl ?_ -- t15
      refine WD.one 10 (by kernel_rfl) ?_
      refine WO.off rfl rfl rfl rfl rfl rfl rfl ?_ -- t16
      refine WD.take 11 rfl (by kernel_rfl) (by kernel_rfl) (by kernel_rfl) rfl rfl (Yl.pickF rfl rfl) rfl ?_ -- t17
      refine WD.done (by kernel_rfl) ?_
      refine WC.condF rfl (by first | rfl | (simp; done) | (simp; omega)) ?_
      refine WC.exit ?_
      have hal : a = xs.length := by
        have : ¬ a < xs.length := by simpa using g10
        omega
      exact ⟨rfl, a, ⟨ha, pos_of' ha hlo (fun q hq => by
        have := (List.getElem?_eq_some_iff.1 hq).1
        omega)⟩, (by repeat (first | exact Sub.nil | refine Sub.cons rfl ?_)), _, (by repeat (first | exact TakeL.nil | (apply TakeL.cons; · repeat (first | exact Take1.head | apply Take1.tail))))⟩
  · rintro a ⟨ha, hpa⟩
    have hins : insF xs r = xs.take a ++ r :: xs.drop a := by unfold insF; rw [hpa]
    have hinl := ins_len xs r
    refine WC.seq ?_
    refine WC.drawAny (Hs := [rdR (.slice al xs.length cl) 22 xs.length (vcs rcV xs), blkR b3 33 r.cells]) mixed (by kernel_rfl) ⟨_, (by repeat (first | exact TakeL.nil | (apply TakeL.cons; · repeat (first | exact Take1.head | apply Take1.tail))))⟩ ?_
    refine WD.take 1 rfl (by kernel_rfl) (by kernel_rfl) (by kernel_rfl) rfl rfl (Yl.move rfl) rfl ?_ -- t21
    refine WD.take 2 rfl (by kernel_rfl) (by kernel_rfl) (by kernel_rfl) rfl rfl (Yl.move rfl) rfl ?_ -- t22
    refine WD.take 3 rfl (by kernel_rfl) (by kernel_rfl) (by kernel_rfl) rfl rfl (Yl.slice un22 sz33 rfl rfl ⟨_, rfl⟩ (by omega) (by omega)) rfl ?_ -- t23
    refine WD.take 5 rfl (by kernel_rfl) (by kernel_rfl) (by kernel_rfl) rfl rfl (Yl.loadN ag33 rfl (by repeat (first | exact Take1.head | apply Take1.tail)) (leB (by rw [hr22]; omega)) (Rc.call hr.len)) rfl ?_ -- t25
    refine WD.take 8 rfl (by kernel_rfl) (by kernel_rfl) (by kernel_rfl) rfl rfl (Yl.move rfl) rfl ?_ -- t28
    refine WD.take 9 rfl (by kernel_rfl) (by kernel_rfl) (by kernel_rfl) rfl rfl (Yl.move rfl) rfl ?_ -- t29
    refine WD.take 10 rfl (by kernel_rfl) (by kernel_rfl) (by kernel_rfl) rfl rfl (Yl.slice un22 sz33 rfl ⟨_, rfl⟩ rfl (by omega) (by omega)) rfl ?_ -- t30
    refine WD.two 0 6 (by kernel_rfl) ?_ ?_
    · refine WO.to rfl rfl .no (To.buildSlice (vs := []) un22 zs33 rfl rfl (by simp [Value.cells]) (by decide) (by decide)) rfl (fun _ => ⟨_, (by repeat (first | exact TakeL.nil | (apply TakeL.cons; · repeat (first | exact Take1.head | apply Take1.tail))))⟩) ?_ -- t20
      intro b20
      rw [show flat [] = [] from rfl]
      refine WD.view (fun w h => h.blkOwn (b := b20) (size := 22) (n := 0) (by repeat (first | exact Take1.head | apply Take1.tail)) (by unfold maxLen; omega) rfl) ?_
      refine WD.two 4 6 (by kernel_rfl) ?_ ?_
      · refine WO.to rfl rfl .no (To.append sl22 rfl rfl (by repeat (first | exact Take1.head | apply Take1.tail)) (Reads.of (RdOf.sub (r := rdR (.slice al xs.length cl) 22 xs.length (vcs rcV xs)) RdOf.rd' (Nat.zero_le _) ha (cs' := vcs rcV (xs.take a)) (by rw [Nat.zero_mul, List.drop_zero, Nat.sub_zero, rc_take hG])) (by repeat (first | exact Take1.head | apply Take1.tail))) (vtR.ones _) (by rw [Nat.sub_zero, Nat.zero_add]) (List.nil_append _) (by unfold maxLen; omega) (by omega)) rfl (fun _ => ⟨_, (by repeat (first | exact TakeL.nil | (apply TakeL.cons; · repeat (first | exact Take1.head | apply Take1.tail))))⟩) ?_ -- t24
        rintro ⟨⟨ao24, c24⟩, hc24⟩
        dsimp only at hc24 ⊢
        refine WD.one 6 (by kernel_rfl) ?_
        refine WO.to rfl rfl .no (To.buildSlice (vs := [.agg r.cells.toArray]) un22 zs33 rfl rfl (by simp [Value.cells, hr22]) (by decide) (by decide)) rfl (fun _ => ⟨_, (by repeat (first | exact TakeL.nil | (apply TakeL.cons; · repeat (first | exact Take1.head | apply Take1.tail))))⟩) ?_ -- t26
        intro b26
        rw [flat1]
        refine WD.one 7 (by kernel_rfl) ?_
        refine WO.to rfl rfl .no (To.append sl22 rfl rfl (by repeat (first | exact Take1.head | apply Take1.tail)) (Reads.of (rdRc hr) (by repeat (first | exact Take1.head | apply Take1.tail))) (Rc.ones _) rfl (show vcs rcV (xs.take a) ++ r.cells = vcs rcV (xs.take a ++ [r]) by rw [vcs_app, vcs_one]; rfl) (by unfold maxLen; omega) (by omega)) rfl (fun _ => ⟨_, (by repeat (first | exact TakeL.nil | (apply TakeL.cons; · repeat (first | exact Take1.head | apply Take1.tail))))⟩) ?_ -- t27
        rintro ⟨⟨ao27, c27⟩, hc27⟩
        dsimp only at hc27 ⊢
        refine WD.one 11 (by kernel_rfl) ?_
        refine WO.to rfl rfl .no (To.append sl22 rfl rfl (by repeat (first | exact Take1.head | apply Take1.tail)) (Reads.of (RdOf.sub (r := rdR (.slice al xs.length cl) 22 xs.length (vcs rcV xs)) RdOf.rd' ha (Nat.le_refl _) (cs' := vcs rcV (xs.drop a)) (by rw [rc_drop hG, List.take_of_length_le (by rw [rc_len (fun q hq => hG q (List.mem_of_mem_drop hq)), List.length_drop]; exact Nat.le_refl _)])) (by repeat (first | exact Take1.head | apply Take1.tail))) (vtR.ones _) (show a + 1 + (xs.length - a) = (insF xs r).length by omega) (show vcs rcV (xs.take a ++ [r]) ++ vcs rcV (xs.drop a) = vcs rcV (insF xs r) by rw [hins, ← vcs_app, List.append_assoc]; rfl) (by unfold maxLen; omega) (by omega)) rfl (fun _ => ⟨_, (by repeat (first | exact TakeL.nil | (apply TakeL.cons; · repeat (first | exact Take1.head | apply Take1.tail))))⟩) ?_ -- t31
        rintro ⟨⟨ao31, c31⟩, hc31⟩
        dsimp only at hc31 ⊢
        refine WD.take 12 rfl (by kernel_rfl) (by kernel_rfl) (by kernel_rfl) rfl rfl (Yl.assign rfl) rfl ?_ -- t4
        refine WD.done (by kernel_rfl) ?_
        refine WC.ret ?_
        repeat (first | (with_reducible refine peelT ?_) | (with_reducible refine peelB ?_) | (with_reducible refine peelTX ?_) | (with_reducible refine peelBX ?_) | (with_reducible refine peelBN ?_) | (with_reducible refine peelBO rfl ?_))
        exact ret1 (.inr rfl) Tryz.results37 rfl fun w' h => ⟨(ao31, c31), trivial, rfl, h.sub (by repeat (first | exact TakeL.nil | (apply TakeL.cons; · repeat (first | exact Take1.head | apply Take1.tail))))⟩
      · refine WO.to rfl rfl .no (To.buildSlice (vs := [.agg r.cells.toArray]) un22 zs33 rfl rfl (by simp [Value.cells, hr22]) (by decide) (by decide)) rfl (fun _ => ⟨_, (by repeat (first | exact TakeL.nil | (apply TakeL.cons; · repeat (first | exact Take1.head | apply Take1.tail))))⟩) ?_ -- t26
        intro b26
        rw [flat1]
        refine WD.one 4 (by kernel_rfl) ?_
        refine WO.to rfl rfl .no (To.append sl22 rfl rfl (by repeat (first | exact Take1.head | apply Take1.tail)) (Reads.of (RdOf.sub (r := rdR (.slice al xs.length cl) 22 xs.length (vcs rcV xs)) RdOf.rd' (Nat.zero_le _) ha (cs' := vcs rcV (xs.take a)) (by rw [Nat.zero_mul, List.drop_zero, Nat.sub_zero, rc_take hG])) (by repeat (first | exact Take1.head | apply Take1.tail))) (vtR.ones _) (by rw [Nat.sub_zero, Nat.zero_add]) (List.nil_append _) (by unfold maxLen; omega) (by omega)) rfl (fun _ => ⟨_, (by repeat (first | exact TakeL.nil | (apply TakeL.cons; · repeat (first | exact Take1.head | apply Take1.tail))))⟩) ?_ -- t24
        rintro ⟨⟨ao24, c24⟩, hc24⟩
        dsimp only at hc24 ⊢
        refine WD.one 7 (by kernel_rfl) ?_
        refine WO.to rfl rfl .no (To.append sl22 rfl rfl (by repeat (first | exact Take1.head | apply Take1.tail)) (Reads.of (rdRc hr) (by repeat (first | exact Take1.head | apply Take1.tail))) (Rc.ones _) rfl (show vcs rcV (xs.take a) ++ r.cells = vcs rcV (xs.take a ++ [r]) by rw [vcs_app, vcs_one]; rfl) (by unfold maxLen; omega) (by omega)) rfl (fun _ => ⟨_, (by repeat (first | exact TakeL.nil | (apply TakeL.cons; · repeat (first | exact Take1.head | apply Take1.tail))))⟩) ?_ -- t27
        rintro ⟨⟨ao27, c27⟩, hc27⟩
        dsimp only at hc27 ⊢
        refine WD.one 11 (by kernel_rfl) ?_
        refine WO.to rfl rfl .no (To.append sl22 rfl rfl (by repeat (first | exact Take1.head | apply Take1.tail)) (Reads.of (RdOf.sub (r := rdR (.slice al xs.length cl) 22 xs.length (vcs rcV xs)) RdOf.rd' ha (Nat.le_refl _) (cs' := vcs rcV (xs.drop a)) (by rw [rc_drop hG, List.take_of_length_le (by rw [rc_len (fun q hq => hG q (List.mem_of_mem_drop hq)), List.length_drop]; exact Nat.le_refl _)])) (by repeat (first | exact Take1.head | apply Take1.tail))) (vtR.ones _) (show a + 1 + (xs.length - a) = (insF xs r).length by omega) (show vcs rcV (xs.take a ++ [r]) ++ vcs rcV (xs.drop a) = vcs rcV (insF xs r) by rw [hins, ← vcs_app, List.append_assoc]; rfl) (by unfold maxLen; omega) (by omega)) rfl (fun _ => ⟨_, (by repeat (first | exact TakeL.nil | (apply TakeL.cons; · repeat (first | exact Take1.head | apply Take1.tail))))⟩) ?_ -- t31
        rintro ⟨⟨ao31, c31⟩, hc31⟩
        dsimp only at hc31 ⊢
        refine WD.take 12 rfl (by kernel_rfl) (by kernel_rfl) (by kernel_rfl) rfl rfl (Yl.assign rfl) rfl ?_ -- t4
        refine WD.done (by kernel_rfl) ?_
        refine WC.ret ?_
        repeat (first | (with_reducible refine peelT ?_) | (with_reducible refine peelB ?_) | (with_reducible refine peelTX ?_) | (with_reducible refine peelBX ?_) | (with_reducible refine peelBN ?_) | (with_reducible refine peelBO rfl ?_))
        exact ret1 (.inr rfl) Tryz.results37 rfl fun w' h => ⟨(ao31, c31), trivial, rfl, h.sub (by repeat (first | exact TakeL.nil | (apply TakeL.cons; · repeat (first | exact Take1.head | apply Take1.tail))))⟩
    · refine WO.to rfl rfl .no (To.buildSlice (vs := [.agg r.cells.toArray]) un22 zs33 rfl rfl (by simp [Value.cells, hr22]) (by decide) (by decide)) rfl (fun _ => ⟨_, (by repeat (first | exact TakeL.nil | (apply TakeL.cons; · repeat (first | exact Take1.head | apply Take1.tail))))⟩) ?_ -- t26
      intro b26
      rw [flat1]
      refine WD.one 0 (by kernel_rfl) ?_
      refine WO.to rfl rfl .no (To.buildSlice (vs := []) un22 zs33 rfl rfl (by simp [Value.cells]) (by decide) (by decide)) rfl (fun _ => ⟨_, (by repeat (first | exact TakeL.nil | (apply TakeL.cons; · repeat (first | exact Take1.head | apply Take1.tail))))⟩) ?_ -- t20
      intro b20
      rw [show flat [] = [] from rfl]
      refine WD.view (fun w h => h.blkOwn (b := b20) (size := 22) (n := 0) (by repeat (first | exact Take1.head | apply Take1.tail)) (by unfold maxLen; omega) rfl) ?_
      refine WD.one 4 (by kernel_rfl) ?_
      refine WO.to rfl rfl .no (To.append sl22 rfl rfl (by repeat (first | exact Take1.head | apply Take1.tail)) (Reads.of (RdOf.sub (r := rdR (.slice al xs.length cl) 22 xs.length (vcs rcV xs)) RdOf.rd' (Nat.zero_le _) ha (cs' := vcs rcV (xs.take a)) (by rw [Nat.zero_mul, List.drop_zero, Nat.sub_zero, rc_take hG])) (by repeat (first | exact Take1.head | apply Take1.tail))) (vtR.ones _) (by rw [Nat.sub_zero, Nat.zero_add]) (List.nil_append _) (by unfold maxLen; omega) (by omega)) rfl (fun _ => ⟨_, (by repeat (first | exact TakeL.nil | (apply TakeL.cons; · repeat (first | exact Take1.head | apply Take1.tail))))⟩) ?_ -- t24
      rintro ⟨⟨ao24, c24⟩, hc24⟩
      dsimp only at hc24 ⊢
      refine WD.one 7 (by kernel_rfl) ?_
      refine WO.to rfl rfl .no (To.append sl22 rfl rfl (by repeat (first | exact Take1.head | apply Take1.tail)) (Reads.of (rdRc hr) (by repeat (first | exact Take1.head | apply Take1.tail))) (Rc.ones _) rfl (show vcs rcV (xs.take a) ++ r.cells = vcs rcV (xs.take a ++ [r]) by rw [vcs_app, vcs_one]; rfl) (by unfold maxLen; omega) (by omega)) rfl (fun _ => ⟨_, (by repeat (first | exact TakeL.nil | (apply TakeL.cons; · repeat (first | exact Take1.head | apply Take1.tail))))⟩) ?_ -- t27
      rintro ⟨⟨ao27, c27⟩, hc27⟩
      dsimp only at hc27 ⊢
      refine WD.one 11 (by kernel_rfl) ?_
      refine WO.to rfl rfl .no (To.append sl22 rfl rfl (by repeat (first | exact Take1.head | apply Take1.tail)) (Reads.of (RdOf.sub (r := rdR (.slice al xs.length cl) 22 xs.length (vcs rcV xs)) RdOf.rd' ha (Nat.le_refl _) (cs' := vcs rcV (xs.drop a)) (by rw [rc_drop hG, List.take_of_length_le (by rw [rc_len (fun q hq => hG q (List.mem_of_mem_drop hq)), List.length_drop]; exact Nat.le_refl _)])) (by repeat (first | exact Take1.head | apply Take1.tail))) (vtR.ones _) (show a + 1 + (xs.length - a) = (insF xs r).length by omega) (show vcs rcV (xs.take a ++ [r]) ++ vcs rcV (xs.drop a) = vcs rcV (insF xs r) by rw [hins, ← vcs_app, List.append_assoc]; rfl) (by unfold maxLen; omega) (by omega)) rfl (fun _ => ⟨_, (by repeat (first | exact TakeL.nil | (apply TakeL.cons; · repeat (first | exact Take1.head | apply Take1.tail))))⟩) ?_ -- t31
      rintro ⟨⟨ao31, c31⟩, hc31⟩
      dsimp only at hc31 ⊢
      refine WD.take 12 rfl (by kernel_rfl) (by kernel_rfl) (by kernel_rfl) rfl rfl (Yl.assign rfl) rfl ?_ -- t4
      refine WD.done (by kernel_rfl) ?_
      refine WC.ret ?_
      repeat (first | (with_reducible refine peelT ?_) | (with_reducible refine peelB ?_) | (with_reducible refine peelTX ?_) | (with_reducible refine peelBX ?_) | (with_reducible refine peelBN ?_) | (with_reducible refine peelBO rfl ?_))
      exact ret1 (.inr rfl) Tryz.results37 rfl fun w' h => ⟨(ao31, c31), trivial, rfl, h.sub (by repeat (first | exact TakeL.nil | (apply TakeL.cons; · repeat (first | exact Take1.head | apply Take1.tail))))⟩
theorem rc_id {xs : List Rc} (hG : ROk xs) {a : Nat} {x : Rc} (h : xs[a]? = some x) : ((vcs rcV xs).drop (a * 22)).take 16 = ints .u8 x.id := by
  have hxo := hG.get h
  have h1 := rc_drop hG a
  rw [h1]
  have hd : xs.drop a = x :: xs.drop (a + 1) := by rw [List.drop_eq_getElem?_toList_append, h]; rfl
  rw [hd, vcs_cons]
  show (x.cells ++ _).take 16 = _
  rw [List.take_append_of_le_length (by rw [Rc.cells_len hxo.len]; omega)]
  have := Rc.cid hxo.len
  simpa using this
set_option maxRecDepth 100000 in
theorem takeR_any (al : Option Addr) (cl : Nat) (xs : List Rc) (r : Rc) (hB : Book xs) (hr : r.ok) (hl : xs.length ≤ 50000) (w : World) (hw : OK w (fpL [rdR (.slice al xs.length cl) 22 xs.length (vcs rcV xs)]) [rdR (.slice al xs.length cl) 22 xs.length (vcs rcV xs)] w) :
    Fn Tryz.prog 17 [.slice al xs.length cl, .agg r.cells.toArray] [rdR (.slice al xs.length cl) 22 xs.length (vcs rcV xs)] w (fun _ : Option Addr × Nat => True) (fun y => .tuple #[.slice y.1 (takeF xs r).1.length y.2, .bool (takeF xs r).2, .bool (mayB r)]) (fun y => [rdR (.slice y.1 (takeF xs r).1.length y.2) 22 (takeF xs r).1.length (vcs rcV (takeF xs r).1)]) := by
  have hr22 := Rc.cells_len hr.len
  have hG := hB.rok
  obtain ⟨_, _, he, hcl, hml⟩ := (hw.get .head : Rd _ _ _ _ _).form
  cases he
  refine enterF Tryz.func17 rfl Tryz.ntmps17 rfl hw ?_
  refine WC.seq ?_
  refine WC.region ?_
  refine WL.to (To.box (cs := r.cells) rfl rfl) rfl ?_ -- t3
  intro b3
  refine WL.y (Yl.assign rfl) rfl ?_ -- t4
  refine WL.y (Yl.assign rfl) rfl ?_ -- t5
  refine WL.y (Yl.assign rfl) rfl ?_ -- t6
  refine WL.nil ?_
  refine WC.seq ?_
  refine WC.seq ?_
  refine WC.region ?_
  refine WL.y (Yl.loadN ag33 rfl (by repeat (first | exact Take1.head | apply Take1.tail)) (leB (by rw [hr22]; omega)) (Rc.call hr.len)) rfl ?_ -- t8
  refine WL.callC (xs := [.tmp 8]) (cap := []) rfl rfl en35 (by repeat (first | exact TakeL.nil | (apply TakeL.cons; · repeat (first | exact Take1.head | apply Take1.tail)))) (fun w hw => rmay_any r hr w hw.left.here) rfl ?_ -- t9 hailer/hailerref11.May
  rintro ⟨⟩ -
  refine WL.y (Yl.not rfl) rfl ?_ -- t10
  refine WL.nil ?_
  refine WC.cond rfl (fun g10 => ?_) (fun g10 => ?_)
  · refine WC.seq ?_
    refine WC.region ?_
    refine WL.y (Yl.move rfl) rfl ?_ -- t11
    refine WL.y (Yl.assign rfl) rfl ?_ -- t4
    refine WL.y (Yl.assign rfl) rfl ?_ -- t5
    refine WL.y (Yl.assign rfl) rfl ?_ -- t6
    refine WL.nil ?_
    refine WC.ret ?_
    repeat (first | (with_reducible refine peelT ?_) | (with_reducible refine peelB ?_) | (with_reducible refine peelTX ?_) | (with_reducible refine peelBX ?_) | (with_reducible refine peelBN ?_) | (with_reducible refine peelBO rfl ?_))
    have hm : mayB r = false := by simpa using g10
    rw [take_bad hm, hm]
    exact ret3 (.inr rfl) Tryz.results17 rfl rfl rfl fun w' h => ⟨(al, cl), trivial, rfl, h.sub (by repeat (first | exact TakeL.nil | (apply TakeL.cons; · repeat (first | exact Take1.head | apply Take1.tail))))⟩
  · refine WC.skip ?_
    refine WC.midX (α := (Option Addr × Nat) × List Rc) (fun y => [(0, .slice y.1.1 y.2.length y.1.2), (3, .pointer (some ⟨b3, 0, none⟩))]) (fun y => [rdR (.slice y.1.1 y.2.length y.1.2) 22 y.2.length (vcs rcV y.2), blkR b3 33 r.cells]) (fun y => ROk y.2 ∧ y.2.length ≤ xs.length ∧ takeF xs r = (insF y.2 r, true)) ?_ ?_
    · refine WC.seq ?_
      have hm : mayB r = true := by simpa using g10
      rw [hm]
      refine WC.region ?_
      refine WL.y (Yl.assign rfl) rfl ?_ -- t7
      refine WL.nil ?_
      refine WC.block ?_
      refine WC.loop (α := Nat) (fun a => [(0, .slice al xs.length cl), (3, .pointer (some ⟨b3, 0, none⟩)), (7, .int .i64 (a : Int))]) (fun _ => [rdR (.slice al xs.length cl) 22 xs.length (vcs rcV xs), blkR b3 33 r.cells]) (fun a => a ≤ xs.length ∧ ∀ (j : Nat) x, j < a → xs[j]? = some x → x.id ≠ r.id) (fun a => xs.length - a) 0 ⟨Nat.zero_le _, fun j p h => by omega⟩ ⟨(by repeat (first | exact Sub.nil | refine Sub.cons rfl ?_)), _, (by repeat (first | exact TakeL.nil | (apply TakeL.cons; · repeat (first | exact Take1.head | apply Take1.tail))))⟩ ?_
      rintro a ⟨ha, hlo⟩
      refine WC.seq ?_
      refine WC.seq ?_
      refine WC.region ?_
      refine WL.y (Yl.move rfl) rfl ?_ -- t12
      refine WL.y (Yl.move rfl) rfl ?_ -- t13
      refine WL.y (Yl.len un22 rfl) rfl ?_ -- t14
      refine WL.y (Yl.lss rfl rfl) rfl ?_ -- t15
      refine WL.nil ?_
      refine WC.condD rfl (fun g15 => ?_) (fun g15 => ?_)
      · refine WC.skip ?_
        refine WC.seq ?_
        refine WC.block ?_
        refine WC.seq ?_
        refine WC.seq ?_
        have hal : a < xs.length := by simpa using g15
        obtain ⟨x, hxx⟩ : ∃ x, xs[a]? = some x := ⟨_, List.getElem?_eq_getElem hal⟩
        have hxb := hB.bk x (List.mem_of_getElem? hxx)
        have hxo := hxb.ok
        have h22 := Rc.cells_len hxo.len
        refine WC.drawAny (Hs := [rdR (.slice al xs.length cl) 22 xs.length (vcs rcV xs), blkR b3 33 r.cells]) mixed (by kernel_rfl) ⟨_, (by repeat (first | exact TakeL.nil | (apply TakeL.cons; · repeat (first | exact Take1.head | apply Take1.tail))))⟩ ?_
        refine WD.take 0 rfl (by kernel_rfl) (by kernel_rfl) (by kernel_rfl) rfl rfl (Yl.move rfl) rfl ?_ -- t18
        refine WD.take 1 rfl (by kernel_rfl) (by kernel_rfl) (by kernel_rfl) rfl rfl (Yl.move rfl) rfl ?_ -- t19
        refine WD.take 2 rfl (by kernel_rfl) (by kernel_rfl) (by kernel_rfl) rfl rfl (Yl.index un22 sz33 rfl rfl (Reads.of (r := rdR (.slice al xs.length cl) 22 xs.length (vcs rcV xs)) RdOf.rd' (by repeat (first | exact Take1.head | apply Take1.tail))) rfl (by omega)) rfl ?_ -- t20
        refine WD.take 3 rfl (by kernel_rfl) (by kernel_rfl) (by kernel_rfl) rfl rfl (Yl.fieldV (v := .slice al xs.length cl) (k := a * 22) fo33_0 rfl (Reads.of (r := rdR (.slice al xs.length cl) 22 xs.length (vcs rcV xs)) RdOf.rd' (by repeat (first | exact Take1.head | apply Take1.tail))) (by rw [rc_len hG]; omega)) rfl ?_
        refine WD.take 4 rfl (by kernel_rfl) (by kernel_rfl) (by kernel_rfl) rfl rfl (Yl.loadON (v := .slice al xs.length cl) (k := a * 22 + 0) (m := 16) (cs' := ints .u8 x.id) ag30 (by decide) rfl (Reads.of (r := rdR (.slice al xs.length cl) 22 xs.length (vcs rcV xs)) RdOf.rd' (by repeat (first | exact Take1.head | apply Take1.tail))) (show a * 22 + 0 + 16 ≤ (vcs rcV xs).length by rw [rc_len hG]; omega) (show ((vcs rcV xs).drop (a * 22 + 0)).take 16 = ints .u8 x.id by rw [Nat.add_zero]; exact rc_id hG hxx)) rfl ?_
        refine WD.take 5 rfl (by kernel_rfl) (by kernel_rfl) (by kernel_rfl) rfl rfl (Yl.field fo33_0 rfl) rfl ?_ -- t23
        refine WD.take 6 rfl (by kernel_rfl) (by kernel_rfl) (by kernel_rfl) rfl rfl (Yl.loadN ag30 rfl (by repeat (first | exact Take1.head | apply Take1.tail)) (leB (by rw [hr22]; omega)) (Rc.cid hr.len)) rfl ?_ -- t24
        refine WD.take 7 rfl (by kernel_rfl) (by kernel_rfl) (by kernel_rfl) rfl rfl (Yl.neA flId rfl rfl (fitsId hxo.len hxo.id) (fitsId hr.len hr.id)) rfl ?_
        rw [eqV_ints]
        refine WD.done (by kernel_rfl) ?_
        refine WC.cond rfl (fun g25 => ?_) (fun g25 => ?_)
        · refine WC.exit ?_
          refine WC.region ?_
          refine WL.y (Yl.move rfl) rfl ?_ -- t16
          refine WL.y (Yl.add rfl rfl (IntWalk.i64_in _ (by omega))) rfl ?_ -- t17
          refine WL.y (Yl.assign rfl) rfl ?_ -- t7
          refine WL.nil ?_
          have hne : x.id ≠ r.id := by simpa using g25
          exact ⟨rfl, a + 1, ⟨by omega, fun j q h1 h2 => by
            by_cases e : j = a
            · subst e
              rw [hxx] at h2
              cases h2
              exact hne
            · exact hlo j q (by omega) h2⟩, by omega, (by repeat (first | exact Sub.nil | refine Sub.cons rfl ?_)), _, (by repeat (first | exact TakeL.nil | (apply TakeL.cons; · repeat (first | exact Take1.head | apply Take1.tail))))⟩
        · refine WC.skip ?_
          refine WC.seq ?_
          refine WC.seq ?_
          have heq : x.id = r.id := by simpa using g25
          have htk := take_old hm (plc_is hxx heq hlo) hxx
          have hdl : (xs.take a ++ xs.drop (a + 1)).length = xs.length - 1 := by rw [List.length_append, List.length_take, List.length_drop]; omega
          refine WC.drawAny (Hs := [rdR (.slice al xs.length cl) 22 xs.length (vcs rcV xs), blkR b3 33 r.cells]) mixed (by kernel_rfl) ⟨_, (by repeat (first | exact TakeL.nil | (apply TakeL.cons; · repeat (first | exact Take1.head | apply Take1.tail))))⟩ ?_
          refine WD.take 0 rfl (by kernel_rfl) (by kernel_rfl) (by kernel_rfl) rfl rfl (Yl.loadN ag33 rfl (by repeat (first | exact Take1.head | apply Take1.tail)) (leB (by rw [hr22]; omega)) (Rc.call hr.len)) rfl ?_ -- t26
          refine WD.take 1 rfl (by kernel_rfl) (by kernel_rfl) (by kernel_rfl) rfl rfl (Yl.move rfl) rfl ?_ -- t27
          refine WD.take 2 rfl (by kernel_rfl) (by kernel_rfl) (by kernel_rfl) rfl rfl (Yl.move rfl) rfl ?_ -- t28
          refine WD.take 3 rfl (by kernel_rfl) (by kernel_rfl) (by kernel_rfl) rfl rfl (Yl.index un22 sz33 rfl rfl (Reads.of (r := rdR (.slice al xs.length cl) 22 xs.length (vcs rcV xs)) RdOf.rd' (by repeat (first | exact Take1.head | apply Take1.tail))) rfl (by omega)) rfl ?_ -- t29
          refine WD.take 4 rfl (by kernel_rfl) (by kernel_rfl) (by kernel_rfl) rfl rfl (Yl.loadV (j := a) (u := x) vtR hG rfl (Reads.of (r := rdR (.slice al xs.length cl) 22 xs.length (vcs rcV xs)) RdOf.rd' (by repeat (first | exact Take1.head | apply Take1.tail))) rfl hxx) rfl ?_
          refine WD.one 5 (by kernel_rfl) ?_
          refine WO.callC (xs := [.tmp 26, .tmp 30]) (cap := []) rfl .no rfl rfl en36 (by repeat (first | exact TakeL.nil | (apply TakeL.cons; · repeat (first | exact Take1.head | apply Take1.tail)))) (fun w hw => ahead_any r x ⟨hr, hm⟩ hxb w hw.left.here) rfl (fun _ => ⟨_, (by repeat (first | exact TakeL.nil | (apply TakeL.cons; · repeat (first | exact Take1.head | apply Take1.tail))))⟩) ?_ -- t31 hailer/hailerref36.Ahead
          rintro ⟨⟩ -
          refine WD.take 6 rfl (by kernel_rfl) (by kernel_rfl) (by kernel_rfl) rfl rfl (Yl.not rfl) rfl ?_ -- t32
          refine WD.done (by kernel_rfl) ?_
          refine WC.cond rfl (fun g32 => ?_) (fun g32 => ?_)
          · refine WC.seq ?_
            refine WC.region ?_
            refine WL.y (Yl.move rfl) rfl ?_ -- t33
            refine WL.y (Yl.assign rfl) rfl ?_ -- t4
            refine WL.y (Yl.assign rfl) rfl ?_ -- t5
            refine WL.y (Yl.assign rfl) rfl ?_ -- t6
            refine WL.nil ?_
            refine WC.ret ?_
            repeat (first | (with_reducible refine peelT ?_) | (with_reducible refine peelB ?_) | (with_reducible refine peelTX ?_) | (with_reducible refine peelBX ?_) | (with_reducible refine peelBN ?_) | (with_reducible refine peelBO rfl ?_))
            have h32 : ¬ betF r x < 0 := by simpa using g32
            have hbn := bet_neg x r
            have h0 : ¬ 0 < betF x r := by omega
            rw [htk, if_neg h0]
            exact ret3 (.inr rfl) Tryz.results17 rfl rfl rfl fun w' h => ⟨(al, cl), trivial, rfl, h.sub (by repeat (first | exact TakeL.nil | (apply TakeL.cons; · repeat (first | exact Take1.head | apply Take1.tail))))⟩
          · refine WC.skip ?_
            refine WC.seq ?_
            refine WC.drawAny (Hs := [rdR (.slice al xs.length cl) 22 xs.length (vcs rcV xs), blkR b3 33 r.cells]) mixed (by kernel_rfl) ⟨_, (by repeat (first | exact TakeL.nil | (apply TakeL.cons; · repeat (first | exact Take1.head | apply Take1.tail))))⟩ ?_
            refine WD.take 1 rfl (by kernel_rfl) (by kernel_rfl) (by kernel_rfl) rfl rfl (Yl.move rfl) rfl ?_ -- t35
            refine WD.take 2 rfl (by kernel_rfl) (by kernel_rfl) (by kernel_rfl) rfl rfl (Yl.move rfl) rfl ?_ -- t36
            refine WD.take 3 rfl (by kernel_rfl) (by kernel_rfl) (by kernel_rfl) rfl rfl (Yl.slice un22 sz33 rfl rfl ⟨_, rfl⟩ (by omega) (by omega)) rfl ?_ -- t37
            refine WD.take 5 rfl (by kernel_rfl) (by kernel_rfl) (by kernel_rfl) rfl rfl (Yl.move rfl) rfl ?_ -- t39
            refine WD.take 6 rfl (by kernel_rfl) (by kernel_rfl) (by kernel_rfl) rfl rfl (Yl.move rfl) rfl ?_ -- t40
            refine WD.take 7 rfl (by kernel_rfl) (by kernel_rfl) (by kernel_rfl) rfl rfl (Yl.add rfl rfl (IntWalk.i64_in _ (by omega))) rfl ?_ -- t41
            refine WD.say (t := 41) (v' := .int .i64 ((a + 1 : Nat) : Int)) rfl (by rfl) ?_
            refine WD.take 8 rfl (by kernel_rfl) (by kernel_rfl) (by kernel_rfl) rfl rfl (Yl.slice un22 sz33 rfl ⟨_, rfl⟩ rfl (by omega) (by omega)) rfl ?_ -- t42
            refine WD.one 0 (by kernel_rfl) ?_
            refine WO.to rfl rfl .no (To.buildSlice (vs := []) un22 zs33 rfl rfl (by simp [Value.cells]) (by decide) (by decide)) rfl (fun _ => ⟨_, (by repeat (first | exact TakeL.nil | (apply TakeL.cons; · repeat (first | exact Take1.head | apply Take1.tail))))⟩) ?_ -- t34
            intro b34
            rw [show flat [] = [] from rfl]
            refine WD.view (fun w h => h.blkOwn (b := b34) (size := 22) (n := 0) (by repeat (first | exact Take1.head | apply Take1.tail)) (by unfold maxLen; omega) rfl) ?_
            refine WD.one 4 (by kernel_rfl) ?_
            refine WO.to rfl rfl .no (To.append sl22 rfl rfl (by repeat (first | exact Take1.head | apply Take1.tail)) (Reads.of (RdOf.sub (r := rdR (.slice al xs.length cl) 22 xs.length (vcs rcV xs)) RdOf.rd' (Nat.zero_le _) (Nat.le_of_lt hal) (cs' := vcs rcV (xs.take a)) (by rw [Nat.zero_mul, List.drop_zero, Nat.sub_zero, rc_take hG])) (by repeat (first | exact Take1.head | apply Take1.tail))) (vtR.ones _) (by rw [Nat.sub_zero, Nat.zero_add]) (List.nil_append _) (by unfold maxLen; omega) (by omega)) rfl (fun _ => ⟨_, (by repeat (first | exact TakeL.nil | (apply TakeL.cons; · repeat (first | exact Take1.head | apply Take1.tail))))⟩) ?_ -- t38
            rintro ⟨⟨ao38, c38⟩, hc38⟩
            dsimp only at hc38 ⊢
            refine WD.one 9 (by kernel_rfl) ?_
            refine WO.to rfl rfl .no (To.append sl22 rfl rfl (by repeat (first | exact Take1.head | apply Take1.tail)) (Reads.of (RdOf.sub (r := rdR (.slice al xs.length cl) 22 xs.length (vcs rcV xs)) RdOf.rd' hal (Nat.le_refl _) (cs' := vcs rcV (xs.drop (a + 1))) (by rw [show a.succ = a + 1 from rfl, rc_drop hG, List.take_of_length_le (by rw [rc_len (fun q hq => hG q (List.mem_of_mem_drop hq)), List.length_drop]; exact Nat.le_refl _)])) (by repeat (first | exact Take1.head | apply Take1.tail))) (vtR.ones _) (show a + (xs.length - (a + 1)) = (xs.take a ++ xs.drop (a + 1)).length by rw [List.length_append, List.length_take, List.length_drop]; omega) (show _ = vcs rcV (xs.take a ++ xs.drop (a + 1)) by rw [vcs_app]) (by unfold maxLen; omega) (by omega)) rfl (fun _ => ⟨_, (by repeat (first | exact TakeL.nil | (apply TakeL.cons; · repeat (first | exact Take1.head | apply Take1.tail))))⟩) ?_ -- t43
            rintro ⟨⟨ao43, c43⟩, hc43⟩
            dsimp only at hc43 ⊢
            refine WD.view (fun w h => h.readOnly (v := .slice ao43 (xs.take a ++ xs.drop (a + 1)).length c43) (by repeat (first | exact Take1.head | apply Take1.tail))) ?_
            refine WD.take 10 rfl (by kernel_rfl) (by kernel_rfl) (by kernel_rfl) rfl rfl (Yl.assign rfl) rfl ?_ -- t0
            refine WD.done (by kernel_rfl) ?_
            refine WC.exit ?_
            have h0 : 0 < betF x r := by
              have : betF r x < 0 := by simpa using g32
              have h1 := bet_neg x r
              omega
            refine ⟨rfl, ((ao43, c43), xs.take a ++ xs.drop (a + 1)), ⟨(hB.del a).rok, by dsimp only; rw [List.length_append, List.length_take, List.length_drop]; omega, by rw [htk, if_pos h0]⟩, (by repeat (first | exact Sub.nil | refine Sub.cons rfl ?_)), ?_⟩
            exact ⟨_, (by repeat (first | exact TakeL.nil | (apply TakeL.cons; · repeat (first | exact Take1.head | apply Take1.tail))))⟩
      · refine WC.exit ?_
        have hal : a = xs.length := by
          have : ¬ a < xs.length := by simpa using g15
          omega
        have hp : plcF xs r.id = none := plc_no fun x hx => by
          obtain ⟨j, hj⟩ := List.mem_iff_getElem?.1 hx
          exact hlo j x (by have := (List.getElem?_eq_some_iff.1 hj).1; omega) hj
        exact ⟨rfl, ((al, cl), xs), ⟨hG, Nat.le_refl _, take_new hm hp⟩, (by repeat (first | exact Sub.nil | refine Sub.cons rfl ?_)), _, (by repeat (first | exact TakeL.nil | (apply TakeL.cons; · repeat (first | exact Take1.head | apply Take1.tail))))⟩
    · rintro ⟨⟨ao, ca⟩, l2⟩ ⟨hG2, hl2, ht2⟩
      dsimp only at hG2 hl2 ht2 ⊢
      have hm : mayB r = true := by simpa using g10
      rw [ht2, hm]
      refine WC.seq ?_
      refine WC.region ?_
      refine WL.y (Yl.move rfl) rfl ?_ -- t44
      refine WL.y (Yl.loadN ag33 rfl (by repeat (first | exact Take1.head | apply Take1.tail)) (leB (by rw [hr22]; omega)) (Rc.call hr.len)) rfl ?_ -- t45
      refine WL.callC (xs := [.tmp 44, .tmp 45]) (cap := []) rfl rfl en37 (by repeat (first | exact TakeL.nil | (apply TakeL.cons; · repeat (first | exact Take1.head | apply Take1.tail)))) (fun w hw => putR_any ao ca l2 r hG2 hr (by omega) w hw.left.here) rfl ?_ -- t46 hailer/hailerref36.Put
      rintro ⟨a46, c46⟩ -
      dsimp only [List.cons_append, List.nil_append]
      refine WL.y (Yl.assign rfl) rfl ?_ -- t4
      refine WL.y (Yl.assign rfl) rfl ?_ -- t5
      refine WL.y (Yl.assign rfl) rfl ?_ -- t6
      refine WL.nil ?_
      refine WC.ret ?_
      repeat (first | (with_reducible refine peelT ?_) | (with_reducible refine peelB ?_) | (with_reducible refine peelTX ?_) | (with_reducible refine peelBX ?_) | (with_reducible refine peelBN ?_) | (with_reducible refine peelBO rfl ?_))
      exact ret3 (.inr rfl) Tryz.results17 rfl rfl rfl fun w' h => ⟨(a46, c46), trivial, rfl, (h.readOnly (v := .slice a46 (insF l2 r).length c46) (by repeat (first | exact Take1.head | apply Take1.tail))).sub (by repeat (first | exact TakeL.nil | (apply TakeL.cons; · repeat (first | exact Take1.head | apply Take1.tail))))⟩
end Go.Proofs.YtmcdbjbkkejbbaaGreat
