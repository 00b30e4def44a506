/- LogLast: the walk. -/
import Derived.Test.YtpjgmiemamcdhaaLogV
namespace Go.Proofs.Ytpjgmiemamcdhaa
open Go Go.RowKit

/-- The record that is appended meanwhile. -/
def busyF (q : Int) : Rc := ⟨9 :: 9 :: q :: List.replicate 13 0, 0, false, 5, 0, 0, 0⟩
theorem busyF_ok {q : Int} (h : 0 ≤ q ∧ q < 256) : (busyF q).ok := by
  have z := zero_ok
  refine ⟨rfl, ?_, z.peer, ⟨by show (0 : Int) ≤ 5; omega, by show (5 : Int) < _; omega⟩, z.bg, z.an, z.en⟩
  intro x hx
  simp [busyF] at hx
  omega
theorem busyF_may (q : Int) : mayB (busyF q) = true := by simp [busyF, mayB]
theorem idRow {zs : List Rc} (hG : ROk zs) {j : Nat} {r : Rc} (hj : zs[j]? = some r) : ((vcs rcV zs).drop (j * 22 + 0)).take 16 = ints .u8 r.id := by
  have h := vtR.at hG hj
  have hr := (hG.get hj).len
  have := congrArg (List.take 16) h
  rw [List.take_take] at this
  rw [Nat.add_zero, show (16 : Nat) = min 16 22 from rfl, this]
  have := Rc.cid hr
  rwa [List.drop_zero] at this
theorem rev_at {xs : List Rc} {j : Nat} (h : j < xs.length) : xs.reverse[j]? = xs[xs.length - 1 - j]? := by rw [List.getElem?_reverse h]

set_option maxHeartbeats 1600000 in
set_option maxRecDepth 100000 in
theorem logLast_any (l : List Rc) (v : Value) (hG : ROk l) (w : World) (hw : OK w (fpL [rdR v 22 l.length (vcs rcV l)]) [rdR v 22 l.length (vcs rcV l)] w) :
    Fn Try.prog 6 [v] [rdR v 22 l.length (vcs rcV l)] w (fun _ : Unit => True) (fun _ => .bool true) (fun _ => []) := by
  obtain ⟨al, cl, rfl, hcl, hml⟩ := (hw.get .head : Rd _ _ _ _ _).form
  refine enterM Try.func6 rfl Try.ntmps6 rfl hw ?_
  refine WC.seq ?_
  refine WC.region ?_
  refine WL.to (To.alloc (cs := [.bool false]) zr4 rfl) rfl ?_ -- t2
  intro b2
  refine WL.nil ?_
  refine WC.seq ?_
  refine WC.seq ?_
  refine WC.region ?_
  refine WL.callC (xs := []) (cap := []) rfl rfl en8 (by repeat (first | exact TakeL.nil | (apply TakeL.cons; · repeat (first | exact Take1.head | apply Take1.tail)))) (fun w hw => worksL_any w hw.left.here) rfl ?_ -- t20 hailer/hailerlaw25.works
  rintro ⟨⟩ -
  refine WL.y (Yl.not rfl) rfl ?_ -- t21
  refine WL.nil ?_
  refine WC.condF rfl (by first | rfl | (simp; done) | (simp; omega)) ?_
  refine WC.skip ?_
  refine WC.seq ?_
  refine WC.seq ?_
  refine WC.region ?_
  refine WL.y (Yl.move rfl) rfl ?_ -- t22
  refine WL.y (Yl.len un39 rfl) rfl ?_ -- t23
  refine WL.y (Yl.gtr rfl rfl) rfl ?_ -- t24
  refine WL.nil ?_
  refine WC.condD rfl (fun g24 => ?_) (fun g24 => ?_)
  · refine WC.seq ?_
    refine WC.region ?_
    refine WL.sto (Sto.one sz4 rfl rfl (by repeat (first | exact Take1.head | apply Take1.tail)) rfl (by rfl) (by rfl)) (fun _ h => nomatch h) ?_ -- st 2
    refine WL.nil ?_
    refine WC.ret ?_
    repeat (first | (with_reducible refine peelT ?_) | (with_reducible refine peelB ?_) | (with_reducible refine peelTX ?_) | (with_reducible refine peelBX ?_) | (with_reducible refine peelBN ?_) | (with_reducible refine peelBO rfl ?_))
    refine retM.of .nil ?_
    exact retV1 (.inr rfl) Try.results6 on4 rfl (by repeat (first | exact Take1.head | apply Take1.tail)) fun w' h => ⟨(), trivial, rfl, h.sub (by repeat (first | exact TakeL.nil | (apply TakeL.cons; · repeat (first | exact Take1.head | apply Take1.tail))))⟩
  · refine WC.skip ?_
    refine WC.seq ?_
    refine WC.region ?_
    refine WL.callC (xs := []) (cap := []) rfl rfl en17 (by repeat (first | exact TakeL.nil | (apply TakeL.cons; · repeat (first | exact Take1.head | apply Take1.tail)))) (fun w hw => logNew_any w hw.left.here) rfl ?_ -- t25 hailer/log.New
    rintro ⟨bl, bb⟩ -
    dsimp only [logR, List.cons_append, List.nil_append]
    refine WL.to (To.alloc (cs := [.pointer none]) zr41 rfl) rfl ?_ -- t3
    intro b3
    refine WL.sto (Sto.one sz41 rfl rfl (by repeat (first | exact Take1.head | apply Take1.tail)) rfl (by rfl) (by rfl)) (fun _ h => nomatch h) ?_ -- st 3
    refine WL.nil ?_
    refine WC.seq ?_
    refine WC.region ?_
    refine WL.y (Yl.assign rfl) rfl ?_ -- t4
    refine WL.nil ?_
    refine WC.seq ?_
    refine WC.seq ?_
    refine WC.region ?_
    refine WL.y (Yl.move rfl) rfl ?_ -- t26
    refine WL.y (Yl.len un39 rfl) rfl ?_ -- t27
    refine WL.y (Yl.move rfl) rfl ?_ -- t28
    refine WL.nil ?_
    refine WC.block ?_
    have hl200 : l.length ≤ 200 := by omega
    refine WC.view (fun w h => h.addNil 46 22) ?_
    refine WC.loop (α := Nat × (Option Addr × Nat) × (Option Addr × Nat)) (fun p => [(2, .pointer (some ⟨b2, 0, none⟩)), (3, .pointer (some ⟨b3, 0, none⟩)), (4, .slice p.2.2.1 (keptF (l.take p.1)).length p.2.2.2), (26, .slice al l.length cl), (27, .int .i64 (l.length : Int)), (28, .int .i64 (p.1 : Int))]) (fun p => [blkR b2 4 [.bool false], blkR b3 41 [.pointer (some ⟨bl, 0, none⟩)], blkR bl 87 [.pointer (some ⟨bb, 0, none⟩)], blkR bb 90 [.slice p.2.1.1 (logF (l.take p.1)).length p.2.1.2, .int .i64 4096], ownR (.slice p.2.1.1 (logF (l.take p.1)).length p.2.1.2) 46 22 (logF (l.take p.1)).length (vcs rcV (logF (l.take p.1))), ownR (.slice p.2.2.1 (keptF (l.take p.1)).length p.2.2.2) 46 22 (keptF (l.take p.1)).length (vcs rcV (keptF (l.take p.1))), rdR (.slice al l.length cl) 22 l.length (vcs rcV l)]) (fun p => p.1 ≤ l.length) (fun p => l.length - p.1) (0, (none, 0), (none, 0)) (Nat.zero_le _) ⟨(by repeat (first | exact Sub.nil | refine Sub.cons rfl ?_)), _, (by repeat (first | exact TakeL.nil | (apply TakeL.cons; · repeat (first | exact Take1.head | apply Take1.tail))))⟩ ?_
    rintro ⟨j, ⟨ao, ca⟩, ⟨ko, kc⟩⟩ hj
    dsimp only at hj ⊢
    refine WC.seq ?_
    refine WC.region ?_
    refine WL.y (Yl.lss rfl rfl) rfl ?_ -- t29
    refine WL.nil ?_
    refine WC.seq ?_
    refine WC.condD rfl (fun g29 => ?_) (fun g29 => ?_)
    · refine WC.skip ?_
      refine WC.seq ?_
      refine WC.block ?_
      refine WC.seq ?_
      refine WC.region ?_
      have hjl : j < l.length := by omega
      obtain ⟨x, hx0⟩ : ∃ x, l[j]? = some x := ⟨_, List.getElem?_eq_getElem hjl⟩
      have hxo := hG.get hx0
      have h22 := Rc.cells_len hxo.len
      have hnx : l.take (j + 1) = l.take j ++ [x] := (take_snoc _ _ _ hx0).symm
      have hLG := logF_ok (l.take j) (fun y hy => hG y (List.mem_of_mem_take hy))
      have hLl := logF_len (l.take j)
      have hKl := keptF_le (l.take j)
      rw [List.length_take] at hLl hKl
      refine WL.y (Yl.index un39 sz46 rfl rfl (Reads.of (r := rdR (.slice al l.length cl) 22 l.length (vcs rcV l)) RdOf.rd' (by repeat (first | exact Take1.head | apply Take1.tail))) rfl (by omega)) rfl ?_ -- t30
      refine WL.y (Yl.loadV (j := j) (u := x) vtR hG rfl (Reads.of (r := rdR (.slice al l.length cl) 22 l.length (vcs rcV l)) RdOf.rd' (by repeat (first | exact Take1.head | apply Take1.tail))) rfl hx0) rfl ?_
      refine WL.to (To.alloc (cs := Rc.zero.cells) zr46 rfl) rfl ?_ -- t6
      intro b6
      refine WL.sto (Sto.agg sz46 rfl rfl (by repeat (first | exact Take1.head | apply Take1.tail)) (Rc.ones _) h22 (by rfl) (Rc.all (r := Rc.zero) rfl x.cells h22)) (fun _ h => nomatch h) ?_ -- st 4
      refine WL.nil ?_
      refine WC.seq ?_
      refine WC.region ?_
      refine WL.y (Yl.load on41 rfl (by repeat (first | exact Take1.head | apply Take1.tail)) (by rfl)) rfl ?_ -- t33
      refine WL.y (Yl.loadN ag46 rfl (by repeat (first | exact Take1.head | apply Take1.tail)) (leB (by rw [h22]; omega)) (Rc.call hxo.len)) rfl ?_ -- t34
      refine WL.callC (xs := [.tmp 33, .tmp 34]) (cap := []) rfl rfl en19 (by repeat (first | exact TakeL.nil | (apply TakeL.cons; · repeat (first | exact Take1.head | apply Take1.tail)))) (fun w hw => append_any bl bb ao ca (logF (l.take j)) x hLG hxo (by omega) w hw.left.here) rfl ?_ -- t35 (*hailer/log.Log).Append
      rintro ⟨a35, c35⟩ -
      dsimp only [logR, List.cons_append, List.nil_append]
      refine WL.y (Yl.move rfl) rfl ?_ -- t32
      refine WL.y (Yl.extract rfl rfl) rfl ?_ -- t36
      refine WL.y (Yl.extract rfl rfl) rfl ?_ -- t37
      refine WL.y (Yl.assign rfl) rfl ?_ -- t7
      refine WL.y (Yl.assign rfl) rfl ?_ -- t8
      refine WL.nil ?_
      refine WC.seq ?_
      refine WC.region ?_
      refine WL.y (Yl.move rfl) rfl ?_ -- t38
      refine WL.y (Yl.eql rfl rfl) rfl ?_ -- t39
      refine WL.say (t := 39) (v' := .bool (mayB x)) rfl (by (cases mayB x <;> rfl)) ?_
      refine WL.nil ?_
      refine WC.cond rfl (fun g39 => ?_) (fun g39 => ?_)
      · refine WC.region ?_
        refine WL.y (Yl.move rfl) rfl ?_ -- t40
        refine WL.y (Yl.loadN ag46 rfl (by repeat (first | exact Take1.head | apply Take1.tail)) (leB (by rw [h22]; omega)) (Rc.call hxo.len)) rfl ?_ -- t41
        refine WL.to (To.buildSlice (vs := [.agg x.cells.toArray]) un39 zs46 rfl rfl (by simp [Value.cells, h22]) (by decide) (by decide)) rfl ?_
        intro b42
        refine WL.to (To.append sl39 rfl rfl (by repeat (first | exact Take1.head | apply Take1.tail)) (Reads.of (RdOf.blk (size := 22) (cs := flat [.agg x.cells.toArray]) (cs' := x.cells) (Nat.le_refl _) (by unfold maxLen; omega) (by simp [flat, Value.cells, h22]) (by simp [flat, Value.cells]; rw [List.take_of_length_le (by rw [h22]; omega)])) (by repeat (first | exact Take1.head | apply Take1.tail))) (Rc.ones _) (show (keptF (l.take j)).length + 1 = (keptF (l.take j) ++ [x]).length by simp) (show vcs rcV (keptF (l.take j)) ++ x.cells = vcs rcV (keptF (l.take j) ++ [x]) by rw [vcs_app, vcs_one]; rfl) (by simp; unfold maxLen; omega) (by simp; omega)) rfl ?_ -- t43
        rintro ⟨⟨ao43, c43⟩, hc43⟩
        dsimp only at hc43 ⊢
        refine WL.y (Yl.assign rfl) rfl ?_ -- t4
        refine WL.nil ?_
        refine WC.region ?_
        refine WL.y (Yl.add rfl rfl (IntWalk.i64_in _ (by omega))) rfl ?_ -- t44
        refine WL.y (Yl.move rfl) rfl ?_ -- t28
        refine WL.nil ?_
        exact ⟨rfl, (j + 1, (a35, c35), (ao43, c43)), by dsimp only; omega, by dsimp only; omega, by dsimp only; rw [hnx, keptF_snoc, if_pos g39]; exact (by repeat (first | exact Sub.nil | refine Sub.cons rfl ?_)), _, by dsimp only; rw [hnx, keptF_snoc, if_pos g39, logF_snoc]; exact (by repeat (first | exact TakeL.nil | (apply TakeL.cons; · repeat (first | exact Take1.head | apply Take1.tail))))⟩
      · refine WC.skip ?_
        refine WC.region ?_
        refine WL.y (Yl.add rfl rfl (IntWalk.i64_in _ (by omega))) rfl ?_ -- t44
        refine WL.y (Yl.move rfl) rfl ?_ -- t28
        refine WL.nil ?_
        exact ⟨rfl, (j + 1, (a35, c35), (ko, kc)), by dsimp only; omega, by dsimp only; omega, by dsimp only; rw [hnx, keptF_snoc, if_neg (by rw [g39]; decide)]; exact (by repeat (first | exact Sub.nil | refine Sub.cons rfl ?_)), _, by dsimp only; rw [hnx, keptF_snoc, if_neg (by rw [g39]; decide), logF_snoc]; exact (by repeat (first | exact TakeL.nil | (apply TakeL.cons; · repeat (first | exact Take1.head | apply Take1.tail))))⟩
    · refine WC.exit ?_
      refine WC.seq ?_
      have hjl : j = l.length := by omega
      subst hjl
      rw [List.take_length]
      have hxG := logF_ok l hG
      have hxM := logF_may l
      have hxl := logF_len l
      have hkl := keptF_le l
      have hwl := want_log (l := l) (by omega)
      obtain ⟨hb1, hb2, hb3⟩ := allB_load hxG hxM (logF_nodup (l := l) (by omega))
      have hkG : ROk (keptF l) := fun y hy => hG y (List.mem_filter.1 hy).1
      obtain ⟨xs, hxs⟩ : ∃ xs, logF l = xs := ⟨_, rfl⟩
      obtain ⟨ks, hks⟩ : ∃ ks, keptF l = ks := ⟨_, rfl⟩
      rw [hxs] at hxG hxM hxl hwl hb1 hb2 hb3 ⊢
      rw [hks] at hkl hwl hkG ⊢
      refine WC.region ?_
      refine WL.to (To.alloc (cs := [.slice none 0 0]) zr39 rfl) rfl ?_ -- t9
      intro b9
      refine WL.nil ?_
      refine WC.seq ?_
      refine WC.region ?_
      refine WL.to (To.makeMap kvI vvU) rfl ?_ -- t45
      intro b45
      refine WL.y (Yl.assign rfl) rfl ?_ -- t10
      refine WL.nil ?_
      refine WC.seq ?_
      refine WC.seq ?_
      refine WC.region ?_
      refine WL.y (Yl.move rfl) rfl ?_ -- t46
      refine WL.y (Yl.len un39 rfl) rfl ?_ -- t47
      refine WL.y (Yl.sub rfl rfl (IntWalk.i64_in _ (by omega))) rfl ?_ -- t48
      refine WL.y (Yl.assign rfl) rfl ?_ -- t11
      refine WL.nil ?_
      refine WC.block ?_
      refine WC.view (fun w h => h.addNil 46 22) ?_
      refine WC.loop (α := Nat × (Option Addr × Nat)) (fun p => [(2, .pointer (some ⟨b2, 0, none⟩)), (3, .pointer (some ⟨b3, 0, none⟩)), (4, .slice ko ks.length kc), (9, .pointer (some ⟨b9, 0, none⟩)), (10, .map (some b45)), (11, .int .i64 ((ks.length : Int) - 1 - (p.1 : Int)))]) (fun p => [blkR b2 4 [.bool false], blkR b3 41 [.pointer (some ⟨bl, 0, none⟩)], blkR bl 87 [.pointer (some ⟨bb, 0, none⟩)], blkR bb 90 [.slice ao xs.length ca, .int .i64 4096], ownR (.slice ao xs.length ca) 46 22 xs.length (vcs rcV xs), ownR (.slice ko ks.length kc) 46 22 ks.length (vcs rcV ks), blkR b9 39 [.slice p.2.1 (wantF (ks.reverse.take p.1)).length p.2.2], ownR (.slice p.2.1 (wantF (ks.reverse.take p.1)).length p.2.2) 46 22 (wantF (ks.reverse.take p.1)).length (vcs rcV (wantF (ks.reverse.take p.1))), mapR kvI vvU b45 (idM (idsOf (wantF (ks.reverse.take p.1))))]) (fun p => p.1 ≤ ks.length ∧ ROk (wantF (ks.reverse.take p.1))) (fun p => ks.length - p.1) (0, none, 0) ⟨Nat.zero_le _, fun x hx => by simp [wantF] at hx⟩ ⟨(by refine Sub.cons rfl (Sub.cons rfl (Sub.cons rfl (Sub.cons rfl (Sub.cons rfl (Sub.cons ?_ Sub.nil))))); show some (Value.int .i64 _) = some (Value.int .i64 _); congr 2; omega), _, (by repeat (first | exact TakeL.nil | (apply TakeL.cons; · repeat (first | exact Take1.head | apply Take1.tail))))⟩ ?_
      rintro ⟨j, wo, wc⟩ ⟨hj, hWG⟩
      dsimp only at hj hWG ⊢
      refine WC.seq ?_
      refine WC.seq ?_
      refine WC.region ?_
      refine WL.y (Yl.move rfl) rfl ?_ -- t49
      refine WL.y (Yl.geq rfl rfl) rfl ?_ -- t50
      refine WL.nil ?_
      refine WC.condD rfl (fun g50 => ?_) (fun g50 => ?_)
      · refine WC.skip ?_
        refine WC.seq ?_
        refine WC.block ?_
        refine WC.seq ?_
        have hjl : j < ks.length := by omega
        have hks1 : ks.length - 1 - j < ks.length := by omega
        obtain ⟨x, hx0⟩ : ∃ x, ks[ks.length - 1 - j]? = some x := ⟨_, List.getElem?_eq_getElem hks1⟩
        have hxo := hkG.get hx0
        have h22 := Rc.cells_len hxo.len
        have hnx : ks.reverse.take (j + 1) = ks.reverse.take j ++ [x] := (take_snoc _ _ _ (by rw [rev_at hjl]; exact hx0)).symm
        have hksz : (vcs rcV ks).length = ks.length * 22 := vtR.size hkG
        have hWl := wantF_le (ks.reverse.take j)
        rw [List.length_take, List.length_reverse] at hWl
        have hGm : ∀ p ∈ idM (idsOf (wantF (ks.reverse.take j))), p.1.length = 16 ∧ Bytes p.1 := by
          intro p hp
          obtain ⟨y, hy, rfl⟩ := List.mem_map.1 hp
          obtain ⟨r, hr, rfl⟩ := List.mem_map.1 hy
          exact ⟨(hWG r hr).len, (hWG r hr).id⟩
        refine WC.region ?_
        refine WL.y (Yl.move rfl) rfl ?_ -- t54
        refine WL.y (Yl.move rfl) rfl ?_ -- t55
        refine WL.y (Yl.move rfl) rfl ?_ -- t56
        refine WL.say (t := 56) (v' := .int .i64 ((ks.length - 1 - j : Nat) : Int)) rfl (by (refine congrArg _ ?_; omega)) ?_
        refine WL.y (Yl.index un39 sz46 rfl rfl (Reads.of (RdOf.own (v := .slice ko ks.length kc) (cs := vcs rcV ks)) (by repeat (first | exact Take1.head | apply Take1.tail))) rfl (by omega)) rfl ?_ -- t57
        refine WL.y (Yl.fieldV fo46_0 rfl (Reads.of (RdOf.own (v := .slice ko ks.length kc) (cs := vcs rcV ks)) (by repeat (first | exact Take1.head | apply Take1.tail))) (by rw [hksz]; omega)) rfl ?_
        refine WL.y (Yl.loadON ag44 (by decide) rfl (Reads.of (RdOf.own (v := .slice ko ks.length kc) (cs := vcs rcV ks)) (by repeat (first | exact Take1.head | apply Take1.tail))) (by rw [hksz]; omega) (idRow hkG hx0)) rfl ?_
        refine WL.y (Yl.lookupOk (kv := kvI) keyId un70 (fun _ => by kernel_rfl) (z := .agg #[]) hGm rfl rfl ⟨hxo.len, hxo.id⟩ (MReads.of (m := idM (idsOf (wantF (ks.reverse.take j)))) MapOf.own (by repeat (first | exact Take1.head | apply Take1.tail)))) rfl ?_ -- t60
        refine WL.say (t := 60) (v' := .tuple #[.agg #[], .bool (decide (x.id ∈ idsOf (wantF (ks.reverse.take j))))]) rfl (by rw [unit_get, idM_get]) ?_
        refine WL.y (Yl.move rfl) rfl ?_ -- t53
        refine WL.y (Yl.extract rfl rfl) rfl ?_ -- t61
        refine WL.y (Yl.extract rfl rfl) rfl ?_ -- t62
        refine WL.to (To.alloc (cs := []) (z := .agg #[]) (by kernel_rfl) rfl) rfl ?_
        intro b12
        refine WL.sto (Sto.agg sz71 rfl rfl (by repeat (first | exact Take1.head | apply Take1.tail)) (ys := []) (fun _ h => nomatch h) rfl (by rfl) (by rfl)) (fun _ h => nomatch h) ?_ -- st 5
        refine WL.y (Yl.assign rfl) rfl ?_ -- t13
        refine WL.nil ?_
        refine WC.seq ?_
        refine WC.region ?_
        refine WL.y (Yl.move rfl) rfl ?_ -- t63
        refine WL.y (Yl.not rfl) rfl ?_ -- t64
        refine WL.nil ?_
        refine WC.cond rfl (fun g64 => ?_) (fun g64 => ?_)
        · refine WC.seq ?_
          have hni : x.id ∉ idsOf (wantF (ks.reverse.take j)) := by simpa using g64
          have hst : wantF (ks.reverse.take (j + 1)) = wantF (ks.reverse.take j) ++ [x] := by rw [hnx, wantF_snoc]; unfold stepW; rw [if_neg hni]
          have hids : idsOf (wantF (ks.reverse.take j)) ++ [x.id] = idsOf (wantF (ks.reverse.take (j + 1))) := by rw [hst]; simp [idsOf]
          refine WC.drawAny (Hs := [ownR (.slice ko ks.length kc) 46 22 ks.length (vcs rcV ks)]) mixed (by kernel_rfl) ⟨_, (by repeat (first | exact TakeL.nil | (apply TakeL.cons; · repeat (first | exact Take1.head | apply Take1.tail))))⟩ ?_
          refine WD.take 1 rfl (by kernel_rfl) (by kernel_rfl) (by kernel_rfl) rfl rfl (Yl.move rfl) rfl ?_ -- t66
          refine WD.take 2 rfl (by kernel_rfl) (by kernel_rfl) (by kernel_rfl) rfl rfl (Yl.move rfl) rfl ?_ -- t67
          refine WD.say (t := 67) (v' := .int .i64 ((ks.length - 1 - j : Nat) : Int)) rfl (by (refine congrArg _ ?_; omega)) ?_
          refine WD.take 3 rfl (by kernel_rfl) (by kernel_rfl) (by kernel_rfl) rfl rfl (Yl.index un39 sz46 rfl rfl (Reads.of (RdOf.own (v := .slice ko ks.length kc) (cs := vcs rcV ks)) (by repeat (first | exact Take1.head | apply Take1.tail))) rfl (by omega)) rfl ?_ -- t68
          refine WD.take 4 rfl (by kernel_rfl) (by kernel_rfl) (by kernel_rfl) rfl rfl (Yl.loadV (j := ks.length - 1 - j) (u := x) vtR hkG rfl (Reads.of (RdOf.own (v := .slice ko ks.length kc) (cs := vcs rcV ks)) (by repeat (first | exact Take1.head | apply Take1.tail))) rfl hx0) rfl ?_
          refine WD.two 0 5 (by kernel_rfl) ?_ ?_
          · refine WO.y rfl rfl .no (Yl.load on39 rfl (by repeat (first | exact Take1.head | apply Take1.tail)) (by rfl)) rfl ?_ -- t65
            refine WD.one 5 (by kernel_rfl) ?_
            refine WO.to rfl rfl .no (To.buildSlice (vs := [.agg x.cells.toArray]) un39 zs46 rfl rfl (by simp [Value.cells, h22]) (by decide) (by decide)) rfl (fun _ => ⟨_, (by repeat (first | exact TakeL.nil | (apply TakeL.cons; · repeat (first | exact Take1.head | apply Take1.tail))))⟩) ?_
            intro b70
            refine WD.one 6 (by kernel_rfl) ?_
            refine WO.to rfl rfl .no (To.append sl39 rfl rfl (by repeat (first | exact Take1.head | apply Take1.tail)) (Reads.of (RdOf.blk (size := 22) (cs := flat [.agg x.cells.toArray]) (cs' := x.cells) (Nat.le_refl _) (by unfold maxLen; omega) (by simp [flat, Value.cells, h22]) (by simp [flat, Value.cells]; rw [List.take_of_length_le (by rw [h22]; omega)])) (by repeat (first | exact Take1.head | apply Take1.tail))) (Rc.ones _) (show (wantF (ks.reverse.take j)).length + 1 = (wantF (ks.reverse.take (j + 1))).length by rw [hst]; simp) (show vcs rcV (wantF (ks.reverse.take j)) ++ x.cells = vcs rcV (wantF (ks.reverse.take (j + 1))) by rw [hst, vcs_app, vcs_one]; rfl) (by rw [hst]; simp; unfold maxLen; omega) (by rw [hst]; simp; omega)) rfl (fun _ => ⟨_, (by repeat (first | exact TakeL.nil | (apply TakeL.cons; · repeat (first | exact Take1.head | apply Take1.tail))))⟩) ?_ -- t71
            rintro ⟨⟨ao71, c71⟩, hc71⟩
            dsimp only at hc71 ⊢
            refine WD.one 7 (by kernel_rfl) ?_
            refine WO.sto rfl rfl .no (Sto.one sz39 rfl rfl (by repeat (first | exact Take1.head | apply Take1.tail)) rfl (by rfl) (by rfl)) ⟨_, (by repeat (first | exact TakeL.nil | (apply TakeL.cons; · repeat (first | exact Take1.head | apply Take1.tail))))⟩ ?_ -- st 6
            refine WD.done (by kernel_rfl) ?_
            refine WC.region ?_
            refine WL.y (Yl.move rfl) rfl ?_ -- t72
            refine WL.y (Yl.move rfl) rfl ?_ -- t73
            refine WL.y (Yl.move rfl) rfl ?_ -- t74
            refine WL.say (t := 74) (v' := .int .i64 ((ks.length - 1 - j : Nat) : Int)) rfl (by (refine congrArg _ ?_; omega)) ?_
            refine WL.y (Yl.index un39 sz46 rfl rfl (Reads.of (RdOf.own (v := .slice ko ks.length kc) (cs := vcs rcV ks)) (by repeat (first | exact Take1.head | apply Take1.tail))) rfl (by omega)) rfl ?_ -- t75
            refine WL.y (Yl.fieldV fo46_0 rfl (Reads.of (RdOf.own (v := .slice ko ks.length kc) (cs := vcs rcV ks)) (by repeat (first | exact Take1.head | apply Take1.tail))) (by rw [hksz]; omega)) rfl ?_
            refine WL.y (Yl.loadON ag44 (by decide) rfl (Reads.of (RdOf.own (v := .slice ko ks.length kc) (cs := vcs rcV ks)) (by repeat (first | exact Take1.head | apply Take1.tail))) (by rw [hksz]; omega) (idRow hkG hx0)) rfl ?_
            refine WL.y (Yl.build rfl (cs := []) (fun _ => by kernel_rfl)) rfl ?_ -- t78
            refine WL.sto (Sto.mapPut (v := ()) (q := x.id) (m := idM (idsOf (wantF (ks.reverse.take j)))) (kv := kvI) keyId un70 hGm rfl rfl ⟨hxo.len, hxo.id⟩ rfl (by repeat (first | exact Take1.head | apply Take1.tail))) (fun _ h => nomatch h) ?_ -- st 7
            refine WL.nil ?_
            rw [idM_put hni, hids]
            have hWG2 : ROk (wantF (ks.reverse.take (j + 1))) := by
              rw [hst]
              intro y hy
              rcases List.mem_append.1 hy with hy | hy
              · exact hWG y hy
              · rw [List.mem_singleton.1 hy]; exact hxo
            refine WC.region ?_
            refine WL.y (Yl.move rfl) rfl ?_ -- t51
            refine WL.y (Yl.sub rfl rfl (IntWalk.i64_in _ (by omega))) rfl ?_ -- t52
            refine WL.say (t := 52) (v' := .int .i64 ((ks.length : Int) - 1 - ((j + 1 : Nat) : Int))) rfl (by (refine congrArg _ ?_; omega)) ?_
            refine WL.y (Yl.assign rfl) rfl ?_ -- t11
            refine WL.nil ?_
            exact ⟨rfl, (j + 1, ao71, c71), ⟨by dsimp only; omega, hWG2⟩, by dsimp only; omega, (by repeat (first | exact Sub.nil | refine Sub.cons rfl ?_)), _, (by repeat (first | exact TakeL.nil | (apply TakeL.cons; · repeat (first | exact Take1.head | apply Take1.tail))))⟩
          · refine WO.to rfl rfl .no (To.buildSlice (vs := [.agg x.cells.toArray]) un39 zs46 rfl rfl (by simp [Value.cells, h22]) (by decide) (by decide)) rfl (fun _ => ⟨_, (by repeat (first | exact TakeL.nil | (apply TakeL.cons; · repeat (first | exact Take1.head | apply Take1.tail))))⟩) ?_
            intro b70
            refine WD.one 0 (by kernel_rfl) ?_
            refine WO.y rfl rfl .no (Yl.load on39 rfl (by repeat (first | exact Take1.head | apply Take1.tail)) (by rfl)) rfl ?_ -- t65
            refine WD.one 6 (by kernel_rfl) ?_
            refine WO.to rfl rfl .no (To.append sl39 rfl rfl (by repeat (first | exact Take1.head | apply Take1.tail)) (Reads.of (RdOf.blk (size := 22) (cs := flat [.agg x.cells.toArray]) (cs' := x.cells) (Nat.le_refl _) (by unfold maxLen; omega) (by simp [flat, Value.cells, h22]) (by simp [flat, Value.cells]; rw [List.take_of_length_le (by rw [h22]; omega)])) (by repeat (first | exact Take1.head | apply Take1.tail))) (Rc.ones _) (show (wantF (ks.reverse.take j)).length + 1 = (wantF (ks.reverse.take (j + 1))).length by rw [hst]; simp) (show vcs rcV (wantF (ks.reverse.take j)) ++ x.cells = vcs rcV (wantF (ks.reverse.take (j + 1))) by rw [hst, vcs_app, vcs_one]; rfl) (by rw [hst]; simp; unfold maxLen; omega) (by rw [hst]; simp; omega)) rfl (fun _ => ⟨_, (by repeat (first | exact TakeL.nil | (apply TakeL.cons; · repeat (first | exact Take1.head | apply Take1.tail))))⟩) ?_ -- t71
            rintro ⟨⟨ao71, c71⟩, hc71⟩
            dsimp only at hc71 ⊢
            refine WD.one 7 (by kernel_rfl) ?_
            refine WO.sto rfl rfl .no (Sto.one sz39 rfl rfl (by repeat (first | exact Take1.head | apply Take1.tail)) rfl (by rfl) (by rfl)) ⟨_, (by repeat (first | exact TakeL.nil | (apply TakeL.cons; · repeat (first | exact Take1.head | apply Take1.tail))))⟩ ?_ -- st 6
            refine WD.done (by kernel_rfl) ?_
            refine WC.region ?_
            refine WL.y (Yl.move rfl) rfl ?_ -- t72
            refine WL.y (Yl.move rfl) rfl ?_ -- t73
            refine WL.y (Yl.move rfl) rfl ?_ -- t74
            refine WL.say (t := 74) (v' := .int .i64 ((ks.length - 1 - j : Nat) : Int)) rfl (by (refine congrArg _ ?_; omega)) ?_
            refine WL.y (Yl.index un39 sz46 rfl rfl (Reads.of (RdOf.own (v := .slice ko ks.length kc) (cs := vcs rcV ks)) (by repeat (first | exact Take1.head | apply Take1.tail))) rfl (by omega)) rfl ?_ -- t75
            refine WL.y (Yl.fieldV fo46_0 rfl (Reads.of (RdOf.own (v := .slice ko ks.length kc) (cs := vcs rcV ks)) (by repeat (first | exact Take1.head | apply Take1.tail))) (by rw [hksz]; omega)) rfl ?_
            refine WL.y (Yl.loadON ag44 (by decide) rfl (Reads.of (RdOf.own (v := .slice ko ks.length kc) (cs := vcs rcV ks)) (by repeat (first | exact Take1.head | apply Take1.tail))) (by rw [hksz]; omega) (idRow hkG hx0)) rfl ?_
            refine WL.y (Yl.build rfl (cs := []) (fun _ => by kernel_rfl)) rfl ?_ -- t78
            refine WL.sto (Sto.mapPut (v := ()) (q := x.id) (m := idM (idsOf (wantF (ks.reverse.take j)))) (kv := kvI) keyId un70 hGm rfl rfl ⟨hxo.len, hxo.id⟩ rfl (by repeat (first | exact Take1.head | apply Take1.tail))) (fun _ h => nomatch h) ?_ -- st 7
            refine WL.nil ?_
            rw [idM_put hni, hids]
            have hWG2 : ROk (wantF (ks.reverse.take (j + 1))) := by
              rw [hst]
              intro y hy
              rcases List.mem_append.1 hy with hy | hy
              · exact hWG y hy
              · rw [List.mem_singleton.1 hy]; exact hxo
            refine WC.region ?_
            refine WL.y (Yl.move rfl) rfl ?_ -- t51
            refine WL.y (Yl.sub rfl rfl (IntWalk.i64_in _ (by omega))) rfl ?_ -- t52
            refine WL.say (t := 52) (v' := .int .i64 ((ks.length : Int) - 1 - ((j + 1 : Nat) : Int))) rfl (by (refine congrArg _ ?_; omega)) ?_
            refine WL.y (Yl.assign rfl) rfl ?_ -- t11
            refine WL.nil ?_
            exact ⟨rfl, (j + 1, ao71, c71), ⟨by dsimp only; omega, hWG2⟩, by dsimp only; omega, (by repeat (first | exact Sub.nil | refine Sub.cons rfl ?_)), _, (by repeat (first | exact TakeL.nil | (apply TakeL.cons; · repeat (first | exact Take1.head | apply Take1.tail))))⟩
        · refine WC.skip ?_
          have hsm : wantF (ks.reverse.take (j + 1)) = wantF (ks.reverse.take j) := by rw [hnx, wantF_snoc]; unfold stepW; rw [if_pos (by simpa using g64)]
          have hWG2 : ROk (wantF (ks.reverse.take (j + 1))) := by rw [hsm]; exact hWG
          refine WC.region ?_
          refine WL.y (Yl.move rfl) rfl ?_ -- t51
          refine WL.y (Yl.sub rfl rfl (IntWalk.i64_in _ (by omega))) rfl ?_ -- t52
          refine WL.say (t := 52) (v' := .int .i64 ((ks.length : Int) - 1 - ((j + 1 : Nat) : Int))) rfl (by (refine congrArg _ ?_; omega)) ?_
          refine WL.y (Yl.assign rfl) rfl ?_ -- t11
          refine WL.nil ?_
          exact ⟨rfl, (j + 1, wo, wc), ⟨by dsimp only; omega, hWG2⟩, by dsimp only; omega, (by repeat (first | exact Sub.nil | refine Sub.cons rfl ?_)), _, by dsimp only; rw [hsm]; exact (by repeat (first | exact TakeL.nil | (apply TakeL.cons; · repeat (first | exact Take1.head | apply Take1.tail))))⟩
      · refine WC.exit ?_
        refine WC.seq ?_
        have hjl : j = ks.reverse.length := by rw [List.length_reverse]; omega
        rw [hjl, List.take_length, hwl] at hWG ⊢
        have hzl : xs.reverse.length = xs.length := List.length_reverse
        have hrB := allB_bytes hxG
        have hrL := allB_len hxG
        refine WC.region ?_
        refine WL.y (Yl.load on41 rfl (by repeat (first | exact Take1.head | apply Take1.tail)) (by rfl)) rfl ?_ -- t80
        refine WL.callRoN (xs := [.tmp 80]) (cap := []) (A := [blkR bl 87 [.pointer (some ⟨bb, 0, none⟩)], blkR bb 90 [.slice ao xs.length ca, .int .i64 4096], ownR (.slice ao xs.length ca) 46 22 xs.length (vcs rcV xs)]) rfl rfl en25 (by repeat (first | exact TakeL.nil | (apply TakeL.cons; · repeat (first | exact Take1.head | apply Take1.tail)))) (fun y r hr k hk => by rw [List.mem_singleton.1 hr] at hk ⊢; exact hk) (fun w hw => bytesLo_any bl bb ao ca xs hxG hxM (by omega) w hw.left.here) rfl ?_
        rintro ⟨a81, c81⟩ -
        dsimp only [List.cons_append, List.nil_append]
        refine WL.view (fun w h => h.readOnly (v := .slice a81 (allB xs).length c81) (by repeat (first | exact Take1.head | apply Take1.tail))) ?_
        refine WL.callC (xs := [.tmp 81]) (cap := []) rfl rfl en30 (by repeat (first | exact TakeL.nil | (apply TakeL.cons; · repeat (first | exact Take1.head | apply Take1.tail)))) (fun w hw => load_any (allB xs) _ hrB (by omega) w hw.left.here) rfl ?_ -- t82 hailer/log.Load
        rintro ⟨⟨bl2, bb2⟩, ao2, ca2⟩ -
        dsimp only
        rw [if_pos hb3]
        unfold ldV ldE
        rw [hb3, hb1, hb2]
        simp only [if_true]
        dsimp only [logR, List.cons_append, List.nil_append]
        refine WL.y (Yl.move rfl) rfl ?_ -- t79
        refine WL.y (Yl.extract rfl rfl) rfl ?_ -- t83
        refine WL.y (Yl.extract rfl rfl) rfl ?_ -- t84
        refine WL.y (Yl.assign rfl) rfl ?_ -- t14
        refine WL.y (Yl.assign rfl) rfl ?_ -- t15
        refine WL.nil ?_
        refine WC.seq ?_
        refine WC.seq ?_
        refine WC.drawAny (Hs := [blkR b9 39 [.slice wo xs.reverse.length wc]]) mixed (by kernel_rfl) ⟨_, (by repeat (first | exact TakeL.nil | (apply TakeL.cons; · repeat (first | exact Take1.head | apply Take1.tail))))⟩ ?_
        refine WD.take 0 rfl (by kernel_rfl) (by kernel_rfl) (by kernel_rfl) rfl rfl (Yl.move rfl) rfl ?_ -- t85
        refine WD.take 1 rfl (by kernel_rfl) (by kernel_rfl) (by kernel_rfl) rfl rfl (Yl.neq rfl rfl) rfl ?_ -- t86
        refine WD.know (t := 86) (b' := false) rfl (by first | rfl | (simp; done) | (simp; omega)) ?_
        refine WD.take 2 rfl (by kernel_rfl) (by kernel_rfl) (by kernel_rfl) rfl rfl (Yl.move rfl) rfl ?_ -- t87
        refine WD.takeOn 3 rfl (by kernel_rfl) (by kernel_rfl) (by kernel_rfl) rfl rfl rfl rfl (Yl.move rfl) rfl ?_ -- t88
        refine WD.takeOn 5 rfl (by kernel_rfl) (by kernel_rfl) (by kernel_rfl) rfl rfl rfl rfl (Yl.load on39 rfl (by repeat (first | exact Take1.head | apply Take1.tail)) (by rfl)) rfl ?_ -- t90
        refine WD.takeOn 6 rfl (by kernel_rfl) (by kernel_rfl) (by kernel_rfl) rfl rfl rfl rfl (Yl.len un39 rfl) rfl ?_ -- t91
        refine WD.one 4 (by kernel_rfl) ?_
        refine WO.callC (xs := [.tmp 88]) (cap := []) rfl (.on rfl rfl) rfl rfl en24 (by repeat (first | exact TakeL.nil | (apply TakeL.cons; · repeat (first | exact Take1.head | apply Take1.tail)))) (fun w hw => logLenS_any bl2 bb2 ao2 xs.length ca2 w (hw.srcB (A := []) (by repeat (first | exact Take1.head | apply Take1.tail))) (hw.srcB (A := []) (by repeat (first | exact Take1.head | apply Take1.tail))) hw.left.here) rfl (fun _ => ⟨_, (by repeat (first | exact TakeL.nil | (apply TakeL.cons; · repeat (first | exact Take1.head | apply Take1.tail))))⟩) ?_ -- t89 (*hailer/log.Log).Len
        rintro ⟨⟩ -
        refine WD.takeOn 7 rfl (by kernel_rfl) (by kernel_rfl) (by kernel_rfl) rfl rfl rfl rfl (Yl.neq rfl rfl) rfl ?_ -- t92
        refine WD.know (t := 92) (b' := false) rfl (by simp) ?_
        refine WD.take 8 rfl (by kernel_rfl) (by kernel_rfl) (by kernel_rfl) rfl rfl (Yl.pickF rfl rfl) rfl ?_ -- t93
        refine WD.done (by kernel_rfl) ?_
        refine WC.condF rfl (by first | rfl | (simp; done) | (simp; omega)) ?_
        refine WC.skip ?_
        refine WC.seq ?_
        refine WC.region ?_
        refine WL.to (To.alloc (cs := [.int .i64 0]) zr3 rfl) rfl ?_ -- t16
        intro b16
        refine WL.sto (Sto.one sz3 rfl rfl (by repeat (first | exact Take1.head | apply Take1.tail)) rfl (by rfl) (by rfl)) (fun _ h => nomatch h) ?_ -- st 9
        refine WL.nil ?_
        refine WC.seq ?_
        refine WC.seq ?_
        refine WC.region ?_
        refine WL.y (Yl.load on41 rfl (by repeat (first | exact Take1.head | apply Take1.tail)) (by rfl)) rfl ?_ -- t94
        refine WL.callC (xs := [.tmp 94]) (cap := []) rfl rfl en28 (by repeat (first | exact TakeL.nil | (apply TakeL.cons; · repeat (first | exact Take1.head | apply Take1.tail)))) (fun w hw => nwL_any bl w hw.left.here) rfl ?_ -- t95 (*hailer/log.Log).Newest
        rintro bn -
        refine WL.nil ?_
        refine WC.block ?_
        refine WC.view (fun w h => h.readOnly (v := .slice ao xs.length ca) (by repeat (first | exact Take1.head | apply Take1.tail))) ?_
        refine WC.view (fun w h => h.dup (r := rdR (.slice ao xs.length ca) 22 xs.length (vcs rcV xs)) (by repeat (first | exact Take1.head | apply Take1.tail)) (fun _ h => h)) ?_
        refine WC.rangeN (α := (Option Addr × Nat) × List Rc) (A := [rdR (.slice ao xs.length ca) 22 xs.length (vcs rcV xs)]) (lb := [.pointer (some ⟨bn, 0, none⟩)]) (xs := ysR xs.reverse) (fun i s => [blkR b2 4 [.bool false], blkR b3 41 [.pointer (some ⟨bl, 0, none⟩)], blkR b9 39 [.slice wo xs.reverse.length wc], ownR (.slice wo xs.reverse.length wc) 46 22 xs.reverse.length (vcs rcV xs.reverse), blkR b16 3 [.int .i64 (i : Int)], blkR bl 87 [.pointer (some ⟨bb, 0, none⟩)], blkR bb 90 [.slice s.1.1 s.2.length s.1.2, .int .i64 4096], rdR (.slice s.1.1 s.2.length s.1.2) 22 s.2.length (vcs rcV s.2)]) (fun i s => ROk s.2 ∧ s.2.length ≤ 200 + i) ((ao, ca), xs) rfl en51 ysR_size rfl (by repeat (first | exact TakeL.nil | (apply TakeL.cons; · repeat (first | exact Take1.head | apply Take1.tail)))) ?_ ⟨hxG, by dsimp only; omega⟩ (by repeat (first | exact TakeL.nil | (apply TakeL.cons; · repeat (first | exact Take1.head | apply Take1.tail)))) ?_ ?_
        · intro w hw
          exact nw1_iterN bn bl bb 4096 ao ca xs hxG (by omega) w (hw.get (r := blkR bn 41 [.pointer (some ⟨bl, 0, none⟩)]) (by repeat (first | exact Take1.head | apply Take1.tail))) (hw.get (r := blkR bl 87 [.pointer (some ⟨bb, 0, none⟩)]) (by repeat (first | exact Take1.head | apply Take1.tail))) (hw.get (r := blkR bb 90 [.slice ao xs.length ca, .int .i64 4096]) (by repeat (first | exact Take1.head | apply Take1.tail))) (hw.get (r := rdR (.slice ao xs.length ca) 22 xs.length (vcs rcV xs)) (by repeat (first | exact Take1.head | apply Take1.tail)))
        · rintro l2 i x ⟨⟨ao3, ca3⟩, ys⟩ hx ⟨hyG, hyl⟩ W
          dsimp only at hyG hyl ⊢
          obtain ⟨x, hx0, rfl⟩ := ysR_at hx
          have hilt := (List.getElem?_eq_some_iff.1 hx0).1
          have hxo : x.ok := hxG x (List.mem_reverse.1 (List.mem_of_getElem? hx0))
          have h22 := Rc.cells_len hxo.len
          show WC _ _ _ ((96, .agg x.cells.toArray) :: _) _ _
          refine WC.region ?_
          refine WL.to (To.alloc (cs := Rc.zero.cells) zr46 rfl) rfl ?_ -- t17
          intro b17
          refine WL.sto (Sto.agg sz46 rfl rfl (by repeat (first | exact Take1.head | apply Take1.tail)) (Rc.ones _) h22 (by rfl) (Rc.all (r := Rc.zero) rfl x.cells h22)) (fun _ h => nomatch h) ?_ -- st 10
          refine WL.nil ?_
          repeat (first | (with_reducible refine peelT ?_) | (with_reducible refine peelB ?_) | (with_reducible refine peelTX ?_) | (with_reducible refine peelBX ?_) | (with_reducible refine peelBN ?_) | (with_reducible refine peelBO rfl ?_))
          refine fun W2 => ?_
          refine WC.block ?_
          refine WC.seq ?_
          refine WC.seq ?_
          refine WC.drawRead mixed (by kernel_rfl) ?_
          refine WH.y (Yl.load on3 rfl (by repeat (first | exact Take1.head | apply Take1.tail)) (by rfl)) rfl ?_ -- t97
          refine WH.y (Yl.load on39 rfl (by repeat (first | exact Take1.head | apply Take1.tail)) (by rfl)) rfl ?_ -- t98
          refine WH.y (Yl.len un39 rfl) rfl ?_ -- t99
          refine WH.y (Yl.geq rfl rfl) rfl ?_ -- t100
          refine WH.know (t := 100) (b' := false) rfl (by simp; omega) ?_
          refine WH.y (Yl.move rfl) rfl ?_ -- t101
          refine WH.on rfl rfl ?_
          refine WH.y (Yl.loadN ag46 rfl (by repeat (first | exact Take1.head | apply Take1.tail)) (leB (by rw [h22]; omega)) (Rc.call hxo.len)) rfl ?_ -- t102
          refine WH.on rfl rfl ?_
          refine WH.y (Yl.load on39 rfl (by repeat (first | exact Take1.head | apply Take1.tail)) (by rfl)) rfl ?_ -- t103
          refine WH.on rfl rfl ?_
          refine WH.y (Yl.load on3 rfl (by repeat (first | exact Take1.head | apply Take1.tail)) (by rfl)) rfl ?_ -- t104
          refine WH.on rfl rfl ?_
          refine WH.y (Yl.index un39 sz46 rfl rfl (Reads.of (RdOf.own (v := .slice wo xs.reverse.length wc) (cs := vcs rcV xs.reverse)) (by repeat (first | exact Take1.head | apply Take1.tail))) rfl (by omega)) rfl ?_ -- t105
          refine WH.on rfl rfl ?_
          refine WH.y (Yl.loadV (j := i) (u := x) vtR hWG rfl (Reads.of (RdOf.own (v := .slice wo xs.reverse.length wc) (cs := vcs rcV xs.reverse)) (by repeat (first | exact Take1.head | apply Take1.tail))) rfl hx0) rfl ?_
          refine WH.on rfl rfl ?_
          refine WH.y (Yl.neA flRec rfl rfl hxo.fits hxo.fits) rfl ?_
          refine WH.know (t := 107) (b' := false) rfl (by rw [eqV_self]; rfl) ?_
          refine WH.y (Yl.pickF rfl rfl) rfl ?_ -- t108
          refine WH.nil ?_
          refine WC.condF rfl (by first | rfl | (simp; done) | (simp; omega)) ?_
          refine WC.skip ?_
          refine WC.seq ?_
          refine WC.region ?_
          refine WL.y (Yl.load on3 rfl (by repeat (first | exact Take1.head | apply Take1.tail)) (by rfl)) rfl ?_ -- t109
          refine WL.y (Yl.add rfl rfl (IntWalk.i64_in _ (by omega))) rfl ?_ -- t110
          refine WL.say (t := 110) (v' := .int .i64 ((i + 1 : Nat) : Int)) rfl (by rfl) ?_
          refine WL.sto (Sto.one sz3 rfl rfl (by repeat (first | exact Take1.head | apply Take1.tail)) rfl (by rfl) (by rfl)) (fun _ h => nomatch h) ?_ -- st 12
          refine WL.nil ?_
          obtain ⟨q, hq⟩ : ∃ q : Int, IntKind.u8.wrap ((i + 1 : Nat) : Int) = q := ⟨_, rfl⟩
          have hqr : 0 ≤ q ∧ q < 256 := by rw [← hq, IntKind.wrap_u8]; omega
          refine WC.region ?_
          refine WL.y (Yl.load on41 rfl (by repeat (first | exact Take1.head | apply Take1.tail)) (by rfl)) rfl ?_ -- t111
          refine WL.y (Yl.load on3 rfl (by repeat (first | exact Take1.head | apply Take1.tail)) (by rfl)) rfl ?_ -- t112
          refine WL.y (Yl.conv un3 un5 rfl hq) rfl ?_ -- t113
          refine WL.y (Yl.build rfl (cs := ints .u8 (busyF q).id) (fun _ => by kernel_rfl)) rfl ?_ -- t114
          refine WL.y (Yl.build rfl (cs := (busyF q).cells) (fun _ => by kernel_rfl)) rfl ?_ -- t115
          refine WL.callC (xs := [.tmp 111, .tmp 115]) (cap := []) rfl rfl en19 (by repeat (first | exact TakeL.nil | (apply TakeL.cons; · repeat (first | exact Take1.head | apply Take1.tail)))) (fun w hw => appendS_any bl bb ao3 ca3 ys (busyF q) hyG (busyF_ok hqr) (busyF_may q) (by omega) w (hw.src (A := [_, _]) (r := rdR (.slice ao3 ys.length ca3) 22 ys.length (vcs rcV ys)) RdOf.rd' (by repeat (first | exact Take1.head | apply Take1.tail))) hw.left.here) rfl ?_ -- t116 (*hailer/log.Log).Append
          rintro ⟨a116, c116⟩ -
          dsimp only [logR, List.cons_append, List.nil_append]
          refine WL.view (fun w h => h.readOnly (v := .slice a116 (appF ys (busyF q)).length c116) (by repeat (first | exact Take1.head | apply Take1.tail))) ?_
          refine WL.nil ?_
          repeat (first | (with_reducible refine peelT ?_) | (with_reducible refine peelB ?_) | (with_reducible refine peelTX ?_) | (with_reducible refine peelBX ?_) | (with_reducible refine peelBN ?_) | (with_reducible refine peelBO rfl ?_))
          exact ⟨[blkR b2 4 [.bool false], blkR b3 41 [.pointer (some ⟨bl, 0, none⟩)], blkR b9 39 [.slice wo xs.reverse.length wc], ownR (.slice wo xs.reverse.length wc) 46 22 xs.reverse.length (vcs rcV xs.reverse), blkR b16 3 [.int .i64 ((i + 1 : Nat) : Int)], blkR bl 87 [.pointer (some ⟨bb, 0, none⟩)], blkR bb 90 [.slice a116 (appF ys (busyF q)).length c116, .int .i64 4096], rdR (.slice a116 (appF ys (busyF q)).length c116) 22 (appF ys (busyF q)).length (vcs rcV (appF ys (busyF q)))], _, (by repeat (first | exact TakeL.nil | (apply TakeL.cons; · repeat (first | exact Take1.head | apply Take1.tail)))), ((a116, c116), appF ys (busyF q)), ⟨appF_ok hyG (busyF_ok hqr), by have := appF_le ys (busyF q); dsimp only; omega⟩, rfl⟩
        · rintro ⟨⟨ao3, ca3⟩, ys⟩ D ⟨hyG, hyl⟩
          rw [ysR_len]
          dsimp only [List.cons_append, List.nil_append]
          refine WC.seq ?_
          refine WC.region ?_
          refine WL.to (To.alloc (cs := [.int .i64 0]) zr3 rfl) rfl ?_ -- t18
          intro b18
          refine WL.sto (Sto.one sz3 rfl rfl (by repeat (first | exact Take1.head | apply Take1.tail)) rfl (by rfl) (by rfl)) (fun _ h => nomatch h) ?_ -- st 13
          refine WL.nil ?_
          refine WC.seq ?_
          refine WC.seq ?_
          refine WC.region ?_
          refine WL.y (Yl.move rfl) rfl ?_ -- t117
          refine WL.callC (xs := [.tmp 117]) (cap := []) rfl rfl en28 (by repeat (first | exact TakeL.nil | (apply TakeL.cons; · repeat (first | exact Take1.head | apply Take1.tail)))) (fun w hw => nw_any bl2 bb2 ao2 ca2 xs hxG (by omega) w hw.left.here) rfl ?_ -- t118 (*hailer/log.Log).Newest
          rintro ⟨bn2, own2⟩ -
          refine WL.nil ?_
          refine WC.block ?_
          refine WC.range (α := Unit) (xs := ysR xs.reverse) (fun i _ => [blkR b2 4 [.bool false], blkR b9 39 [.slice wo xs.reverse.length wc], ownR (.slice wo xs.reverse.length wc) 46 22 xs.reverse.length (vcs rcV xs.reverse), blkR b18 3 [.int .i64 (i : Int)]]) (fun _ _ => True) () rfl en51 ysR_size rfl (by repeat (first | exact Take1.head | apply Take1.tail)) trivial (by repeat (first | exact TakeL.nil | (apply TakeL.cons; · repeat (first | exact Take1.head | apply Take1.tail)))) ?_ ?_
          · rintro l2 i x _ hx _ W
            obtain ⟨x, hx0, rfl⟩ := ysR_at hx
            have hilt := (List.getElem?_eq_some_iff.1 hx0).1
            have hxo : x.ok := hxG x (List.mem_reverse.1 (List.mem_of_getElem? hx0))
            have h22 := Rc.cells_len hxo.len
            show WC _ _ _ ((119, .agg x.cells.toArray) :: _) _ _
            refine WC.region ?_
            refine WL.to (To.alloc (cs := Rc.zero.cells) zr46 rfl) rfl ?_ -- t19
            intro b19
            refine WL.sto (Sto.agg sz46 rfl rfl (by repeat (first | exact Take1.head | apply Take1.tail)) (Rc.ones _) h22 (by rfl) (Rc.all (r := Rc.zero) rfl x.cells h22)) (fun _ h => nomatch h) ?_ -- st 14
            refine WL.nil ?_
            repeat (first | (with_reducible refine peelT ?_) | (with_reducible refine peelB ?_) | (with_reducible refine peelTX ?_) | (with_reducible refine peelBX ?_) | (with_reducible refine peelBN ?_) | (with_reducible refine peelBO rfl ?_))
            refine fun W2 => ?_
            refine WC.block ?_
            refine WC.seq ?_
            refine WC.seq ?_
            refine WC.drawRead mixed (by kernel_rfl) ?_
            refine WH.y (Yl.load on3 rfl (by repeat (first | exact Take1.head | apply Take1.tail)) (by rfl)) rfl ?_ -- t120
            refine WH.y (Yl.load on39 rfl (by repeat (first | exact Take1.head | apply Take1.tail)) (by rfl)) rfl ?_ -- t121
            refine WH.y (Yl.len un39 rfl) rfl ?_ -- t122
            refine WH.y (Yl.geq rfl rfl) rfl ?_ -- t123
            refine WH.know (t := 123) (b' := false) rfl (by simp; omega) ?_
            refine WH.y (Yl.move rfl) rfl ?_ -- t124
            refine WH.on rfl rfl ?_
            refine WH.y (Yl.loadN ag46 rfl (by repeat (first | exact Take1.head | apply Take1.tail)) (leB (by rw [h22]; omega)) (Rc.call hxo.len)) rfl ?_ -- t125
            refine WH.on rfl rfl ?_
            refine WH.y (Yl.load on39 rfl (by repeat (first | exact Take1.head | apply Take1.tail)) (by rfl)) rfl ?_ -- t126
            refine WH.on rfl rfl ?_
            refine WH.y (Yl.load on3 rfl (by repeat (first | exact Take1.head | apply Take1.tail)) (by rfl)) rfl ?_ -- t127
            refine WH.on rfl rfl ?_
            refine WH.y (Yl.index un39 sz46 rfl rfl (Reads.of (RdOf.own (v := .slice wo xs.reverse.length wc) (cs := vcs rcV xs.reverse)) (by repeat (first | exact Take1.head | apply Take1.tail))) rfl (by omega)) rfl ?_ -- t128
            refine WH.on rfl rfl ?_
            refine WH.y (Yl.loadV (j := i) (u := x) vtR hWG rfl (Reads.of (RdOf.own (v := .slice wo xs.reverse.length wc) (cs := vcs rcV xs.reverse)) (by repeat (first | exact Take1.head | apply Take1.tail))) rfl hx0) rfl ?_
            refine WH.on rfl rfl ?_
            refine WH.y (Yl.neA flRec rfl rfl hxo.fits hxo.fits) rfl ?_
            refine WH.know (t := 130) (b' := false) rfl (by rw [eqV_self]; rfl) ?_
            refine WH.y (Yl.pickF rfl rfl) rfl ?_ -- t131
            refine WH.nil ?_
            refine WC.condF rfl (by first | rfl | (simp; done) | (simp; omega)) ?_
            refine WC.skip ?_
            refine WC.region ?_
            refine WL.y (Yl.load on3 rfl (by repeat (first | exact Take1.head | apply Take1.tail)) (by rfl)) rfl ?_ -- t132
            refine WL.y (Yl.add rfl rfl (IntWalk.i64_in _ (by omega))) rfl ?_ -- t133
            refine WL.say (t := 133) (v' := .int .i64 ((i + 1 : Nat) : Int)) rfl (by rfl) ?_
            refine WL.sto (Sto.one sz3 rfl rfl (by repeat (first | exact Take1.head | apply Take1.tail)) rfl (by rfl) (by rfl)) (fun _ h => nomatch h) ?_ -- st 16
            refine WL.nil ?_
            repeat (first | (with_reducible refine peelT ?_) | (with_reducible refine peelB ?_) | (with_reducible refine peelTX ?_) | (with_reducible refine peelBX ?_) | (with_reducible refine peelBN ?_) | (with_reducible refine peelBO rfl ?_))
            exact ⟨[blkR b2 4 [.bool false], blkR b9 39 [.slice wo xs.reverse.length wc], ownR (.slice wo xs.reverse.length wc) 46 22 xs.reverse.length (vcs rcV xs.reverse), blkR b18 3 [.int .i64 ((i + 1 : Nat) : Int)]], _, (by repeat (first | exact TakeL.nil | (apply TakeL.cons; · repeat (first | exact Take1.head | apply Take1.tail)))), (), trivial, rfl⟩
          · rintro _ D2 -
            rw [ysR_len]
            dsimp only [List.cons_append, List.nil_append]
            refine WC.seq ?_
            refine WC.region ?_
            refine WL.y (Yl.load on3 rfl (by repeat (first | exact Take1.head | apply Take1.tail)) (by rfl)) rfl ?_ -- t134
            refine WL.y (Yl.load on39 rfl (by repeat (first | exact Take1.head | apply Take1.tail)) (by rfl)) rfl ?_ -- t135
            refine WL.y (Yl.len un39 rfl) rfl ?_ -- t136
            refine WL.y (Yl.eql rfl rfl) rfl ?_ -- t137
            refine WL.know (t := 137) (b' := true) rfl (by simp) ?_
            refine WL.y (Yl.move rfl) rfl ?_ -- t138
            refine WL.on rfl rfl ?_
            refine WL.y (Yl.load on3 rfl (by repeat (first | exact Take1.head | apply Take1.tail)) (by rfl)) rfl ?_ -- t139
            refine WL.on rfl rfl ?_
            refine WL.y (Yl.load on3 rfl (by repeat (first | exact Take1.head | apply Take1.tail)) (by rfl)) rfl ?_ -- t140
            refine WL.on rfl rfl ?_
            refine WL.y (Yl.eql rfl rfl) rfl ?_ -- t141
            refine WL.know (t := 141) (b' := true) rfl (by simp) ?_
            refine WL.y (Yl.pickT rfl rfl) rfl ?_ -- t142
            refine WL.sto (Sto.one sz4 rfl rfl (by repeat (first | exact Take1.head | apply Take1.tail)) rfl (by rfl) (by rfl)) (fun _ h => nomatch h) ?_ -- st 17
            refine WL.nil ?_
            refine WC.ret ?_
            repeat (first | (with_reducible refine peelT ?_) | (with_reducible refine peelB ?_) | (with_reducible refine peelTX ?_) | (with_reducible refine peelBX ?_) | (with_reducible refine peelBN ?_) | (with_reducible refine peelBO rfl ?_))
            refine retM.of (.cons (by repeat (first | exact Take1.head | apply Take1.tail)) (.cons (by repeat (first | exact Take1.head | apply Take1.tail)) .nil)) ?_
            exact retV1 (.inr rfl) Try.results6 on4 rfl (by repeat (first | exact Take1.head | apply Take1.tail)) fun w' h => ⟨(), trivial, rfl, h.sub (by repeat (first | exact TakeL.nil | (apply TakeL.cons; · repeat (first | exact Take1.head | apply Take1.tail))))⟩
end Go.Proofs.Ytpjgmiemamcdhaa
