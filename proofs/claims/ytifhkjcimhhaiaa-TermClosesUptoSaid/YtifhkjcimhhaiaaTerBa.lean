/- TermBuilds: the walk. -/
import Derived.Test.YtifhkjcimhhaiaaTerBp
namespace Go.Proofs.Ytifhkjcimhhaiaa
open Go Go.RowKit
theorem dts_ok {l : List Dn} (hd : ∀ x ∈ l, x.d.ok) : ∀ d ∈ dts l, d.ok := fun d hq => by obtain ⟨x, hx, rfl⟩ := List.mem_map.1 hq; exact hd x hx
theorem wk_of {l : List Dn} (hd : ∀ x ∈ l, x.d.ok) (hL : Light (playR (dts l)).1) : Wk (playR (dts l)).1 (playR (dts l)).2 :=
  have h := play_rel (dts l) (dts_ok hd)
  ⟨h.p, h.m, h.all, hL⟩
theorem playT_eq {l : List Dn} (hd : ∀ x ∈ l, x.d.ok) : playT (dts l) = tmO (playR (dts l)).1 (playR (dts l)).2 := (play_rel (dts l) (dts_ok hd)).t
set_option maxRecDepth 100000 in
set_option maxHeartbeats 1600000 in
theorem builds_any (l : List Dn) (v : Value) (hl : l.length ≤ 10000000) (hd : ∀ x ∈ l, x.d.ok) (hL : ∀ x ∈ l, x.d.l.length ≤ 100000000) (w : World) (hx : DnS w (fpL []) v l) (hw : OK w (fpL []) [] w) :
    Fn Try.prog 3 [v] [] w (fun _ : Unit => True) (fun _ => .bool true) (fun _ => []) := by
  obtain ⟨al, cl, rfl, hcl, hml⟩ := hx.rows.rd.form
  refine enterM Try.func3 rfl Try.ntmps3 rfl hw ?_
  refine WC.seq ?_
  refine WC.region ?_
  refine WL.to (To.alloc (cs := [.bool false]) zr4 rfl) rfl ?_ -- t2
  intro b2
  refine WL.nil ?_
  refine WC.seq ?_
  refine WC.seq ?_
  refine WC.region ?_
  refine WL.callC (xs := []) (cap := []) rfl rfl en6 (by repeat (first | exact TakeL.nil | (apply TakeL.cons; · repeat (first | exact Take1.head | apply Take1.tail)))) (fun w hw => known_any w hw.left.here) rfl ?_ -- t19 hailer/hailerlaw21.known
  rintro ⟨⟩ -
  refine WL.know (t := 19) (b' := true) rfl rfl ?_
  refine WL.y (Yl.not rfl) rfl ?_ -- t20
  refine WL.nil ?_
  refine WC.condF rfl (by first | rfl | (simp; done) | (simp; omega)) ?_
  refine WC.skip ?_
  refine WC.seq ?_
  refine WC.seq ?_
  refine WC.region ?_
  refine WL.y (Yl.move rfl) rfl ?_ -- t21
  refine WL.callC (xs := [.tmp 21]) (cap := []) rfl rfl en7 (by repeat (first | exact TakeL.nil | (apply TakeL.cons; · repeat (first | exact Take1.head | apply Take1.tail)))) (fun w hw => heavy_any l _ hl hd w (hw.srcTS (A := []) hx) hw.left.here) rfl ?_ -- t22 hailer/hailerlaw21.heavy
  rintro hv hvf
  refine WL.nil ?_
  refine WC.cond rfl (fun g22 => ?_) (fun g22 => ?_)
  · refine WC.seq ?_
    refine WC.region ?_
    refine WL.sto (Sto.one sz4 rfl rfl (by repeat (first | exact Take1.head | apply Take1.tail)) rfl (by rfl) (by rfl)) (fun _ h => nomatch h) ?_ -- st 2
    refine WL.nil ?_
    refine WC.ret ?_
    repeat (first | (with_reducible refine peelT ?_) | (with_reducible refine peelB ?_) | (with_reducible refine peelTX ?_) | (with_reducible refine peelBX ?_) | (with_reducible refine peelBN ?_) | (with_reducible refine peelBO rfl ?_))
    refine retM.of .nil ?_
    exact retV1 (.inr rfl) Try.results3 on4 rfl (by repeat (first | exact Take1.head | apply Take1.tail)) fun w' h => ⟨(), trivial, rfl, h.sub (by repeat (first | exact TakeL.nil | (apply TakeL.cons; · repeat (first | exact Take1.head | apply Take1.tail))))⟩
  · refine WC.skip ?_
    refine WC.seq ?_
    obtain ⟨hl100, hlight⟩ := hvf g22
    have hwk := wk_of hd hlight
    have hpe := playT_eq hd
    have hplen := playR_len (dts l)
    rw [dts_len] at hplen
    refine WC.region ?_
    refine WL.y (Yl.move rfl) rfl ?_ -- t23
    refine WL.callC (xs := [.tmp 23]) (cap := []) rfl rfl en8 (by repeat (first | exact TakeL.nil | (apply TakeL.cons; · repeat (first | exact Take1.head | apply Take1.tail)))) (fun w hw => lplay_any l _ hl100 hd hlight hL w (hw.srcTS (A := []) hx) hw.left.here) rfl ?_ -- t24 hailer/hailerlaw21.play
    rintro ym -
    dsimp only [List.cons_append, List.nil_append]
    refine WL.y (Yl.assign rfl) rfl ?_ -- t3
    refine WL.nil ?_
    refine WC.seq ?_
    refine WC.region ?_
    refine WL.y (Yl.move rfl) rfl ?_ -- t26
    refine WL.callC (xs := [.tmp 26]) (cap := []) rfl rfl en9 (by repeat (first | exact TakeL.nil | (apply TakeL.cons; · repeat (first | exact Take1.head | apply Take1.tail)))) (fun w hw => rplay_any l _ hl hd w (hw.srcTS (A := []) hx) hw.left.here) rfl ?_ -- t27 hailer/hailerref21.Play
    rintro ⟨ps, y, m, q⟩ ⟨hps, hm⟩
    dsimp only at hps hm
    rw [hpe]
    rw [← hm] at hwk hplen ⊢
    obtain ⟨P, hPe⟩ : ∃ P, (playR (dts l)).1 = P := ⟨_, rfl⟩
    rw [hPe] at hps hplen hwk ⊢
    have hnl : P.length = ps.length := by rw [← hps, nds_len]
    have hO := hwk.allO
    have htl : (tmO P m).length = m.length := List.length_map _
    have hml2 : m.length ≤ 100 := by omega
    dsimp only [pyR, List.cons_append, List.nil_append]
    refine WL.y (Yl.move rfl) rfl ?_ -- t25
    refine WL.y (Yl.extract rfl rfl) rfl ?_ -- t28
    refine WL.say (t := 28) (v' := .slice y.1 ps.length y.2) rfl (by rfl) ?_
    refine WL.y (Yl.extract rfl rfl) rfl ?_ -- t29
    refine WL.say (t := 29) (v' := .slice q.1 m.length q.2) rfl (by rfl) ?_
    refine WL.y (Yl.assign rfl) rfl ?_ -- t4
    refine WL.y (Yl.assign rfl) rfl ?_ -- t5
    refine WL.nil ?_
    refine WC.seq ?_
    refine WC.region ?_
    refine WL.to (To.makeMap (Value.int .i64) tmV) rfl ?_ -- t30
    intro b30
    refine WL.to (To.alloc (cs := [.map none]) zr32 rfl) rfl ?_ -- t6
    intro b6
    refine WL.sto (Sto.one sz32 rfl rfl (by repeat (first | exact Take1.head | apply Take1.tail)) rfl (by rfl) (by rfl)) (fun _ h => nomatch h) ?_ -- st 3
    refine WL.nil ?_
    refine WC.seq ?_
    refine WC.seq ?_
    refine WC.region ?_
    refine WL.y (Yl.move rfl) rfl ?_ -- t31
    refine WL.y (Yl.len un29 rfl) rfl ?_ -- t32
    refine WL.y (Yl.move rfl) rfl ?_ -- t33
    refine WL.nil ?_
    refine WC.block ?_
    refine WC.loop (α := Nat × OfM) (fun s => [(2, .pointer (some ⟨b2, 0, none⟩)), (3, .slice ym.1 (tmO P m).length ym.2), (4, .slice y.1 ps.length y.2), (5, .slice q.1 m.length q.2), (6, .pointer (some ⟨b6, 0, none⟩)), (31, .slice q.1 m.length q.2), (32, .int .i64 (m.length : Int)), (33, .int .i64 (s.1 : Int))]) (fun s => [blkR b2 4 [.bool false], ownR (.slice ym.1 (tmO P m).length ym.2) 34 1 (tmO P m).length (vcs tmV (tmO P m)), ownR (.slice y.1 ps.length y.2) 38 3 ps.length (vcs pnV ps), bunR (pnL ps), ownR (.slice q.1 m.length q.2) 3 1 m.length (ints .i64 (mdI m)), blkR b6 32 [.map (some b30)], mapR (Value.int .i64) tmV b30 s.2]) (fun s => s.1 ≤ m.length ∧ OfI P m s.1 s.2) (fun s => m.length - s.1) (0, []) ⟨Nat.zero_le _, OfI.start P m⟩ ⟨(by repeat (first | exact Sub.nil | refine Sub.cons rfl ?_)), _, (by repeat (first | exact TakeL.nil | (apply TakeL.cons; · repeat (first | exact Take1.head | apply Take1.tail))))⟩ ?_
    rintro ⟨i, mp⟩ ⟨hi, hof⟩
    dsimp only at hi hof ⊢
    have hwf := hof.wf (by omega)
    refine WC.seq ?_
    refine WC.region ?_
    refine WL.y (Yl.lss rfl rfl) rfl ?_ -- t34
    refine WL.nil ?_
    refine WC.seq ?_
    refine WC.condD rfl (fun g34 => ?_) (fun g34 => ?_)
    · refine WC.skip ?_
      refine WC.seq ?_
      refine WC.block ?_
      refine WC.seq ?_
      have hil : i < m.length := by have := g34; omega
      obtain ⟨o, ho⟩ : ∃ o, m[i]? = some o := ⟨_, List.getElem?_eq_getElem hil⟩
      have hT := tmO_get (P := P) ho
      have hom := List.mem_of_getElem? ho
      have holm := (hwk.lm hom).1
      refine WC.region ?_
      refine WL.y (Yl.move rfl) rfl ?_ -- t35
      refine WL.y (Yl.index un29 sz3 rfl rfl (Reads.of (r := ownR (.slice q.1 m.length q.2) 3 1 m.length (ints .i64 (mdI m))) RdOf.own (by repeat (first | exact Take1.head | apply Take1.tail))) rfl (by omega)) rfl ?_ -- t36
      refine WL.y (Yl.loadE (j := i) (u := .int .i64 (plI o)) on3 rfl (Reads.of (r := ownR (.slice q.1 m.length q.2) 3 1 m.length (ints .i64 (mdI m))) RdOf.own (by repeat (first | exact Take1.head | apply Take1.tail))) (mdI_cell ho)) rfl ?_
      refine WL.y (Yl.assign rfl) rfl ?_ -- t7
      refine WL.y (Yl.assign rfl) rfl ?_ -- t8
      refine WL.nil ?_
      refine WC.seq ?_
      refine WC.seq ?_
      refine WC.region ?_
      refine WL.y (Yl.move rfl) rfl ?_ -- t38
      refine WL.y (Yl.lss rfl rfl) rfl ?_ -- t39
      refine WL.y (Yl.move rfl) rfl ?_ -- t40
      refine WL.y (Yl.move rfl) rfl ?_ -- t41
      refine WL.y (Yl.index un25 sz34 rfl rfl (Reads.of (r := ownR (.slice ym.1 (tmO P m).length ym.2) 34 1 (tmO P m).length (vcs tmV (tmO P m))) RdOf.own (by repeat (first | exact Take1.head | apply Take1.tail))) rfl (by omega)) rfl ?_ -- t42
      refine WL.y (Yl.loadV vtM hO rfl (Reads.of (r := ownR (.slice ym.1 (tmO P m).length ym.2) 34 1 (tmO P m).length (vcs tmV (tmO P m))) RdOf.own (by repeat (first | exact Take1.head | apply Take1.tail))) rfl hT) rfl ?_ -- t43
      refine WL.y (Yl.build rfl (cs := tmC none) (fun _ => by kernel_rfl)) rfl ?_ -- t44
      refine WL.y (Yl.eqlG rfl rfl (fun w => eqM_op (b := none) holm (fun t h => nomatch h) w)) rfl ?_ -- t45
      refine WL.y (Yl.bNe un4 rfl rfl) rfl ?_ -- t46
      refine WL.know (t := 46) (b' := false) rfl (by rw [neg_none P o]; simp) ?_
      refine WL.nil ?_
      refine WC.condF rfl (by first | rfl | (simp; done) | (simp; omega)) ?_
      refine WC.skip ?_
      refine WC.seq ?_
      refine WC.region ?_
      refine WL.y (Yl.move rfl) rfl ?_ -- t47
      refine WL.y (Yl.geq rfl rfl) rfl ?_ -- t48
      refine WL.nil ?_
      refine WC.condD rfl (fun g48 => ?_) (fun g48 => ?_)
      · refine WC.seq ?_
        refine WC.seq ?_
        obtain ⟨j, rfl⟩ := plI_some g48
        have hjl := hwk.md j hom
        have hwj : (Lit.int .i64 (j : Int)).wf = true := wfI ⟨by omega, by omega⟩
        have hgot := hof.got j
        refine WC.region ?_
        refine WL.y (Yl.load on32 rfl (by repeat (first | exact Take1.head | apply Take1.tail)) (by rfl)) rfl ?_ -- t50
        refine WL.y (Yl.move rfl) rfl ?_ -- t51
        refine WL.say (t := 51) (v' := .int .i64 (j : Int)) rfl (by rfl) ?_
        refine WL.y (Yl.lookupOk (kv := Value.int .i64) keyI un32 (fun _ => by kernel_rfl) (z := .agg #[.string ByteArray.empty]) hwf rfl rfl hwj (MReads.of (m := mp) MapOf.own (by repeat (first | exact Take1.head | apply Take1.tail)))) rfl ?_ -- t52
        obtain ⟨v9, hv9⟩ : ∃ v9, (mget mp (j : Int)).getD none = v9 := ⟨_, rfl⟩
        have hv9c : v9 = none ∨ v9 = some (trP P j) := by rw [← hv9]; rcases hgot with h | h <;> rw [h] <;> simp
        have hv9o : OkO v9 := by
          rcases hv9c with h | h
          · rw [h]; exact fun t h => nomatch h
          · rw [h]; exact fun t e => by cases e; exact (hwk.ok hjl).1
        refine WL.y (Yl.move rfl) rfl ?_ -- t49
        refine WL.y (Yl.extract rfl rfl) rfl ?_ -- t53
        refine WL.say (t := 53) (v' := tmV v9) rfl (by (rw [← hv9]; cases mget mp (j : Int) <;> rfl)) ?_
        refine WL.y (Yl.extract rfl rfl) rfl ?_ -- t54
        refine WL.say (t := 54) (v' := .bool (mget mp (j : Int)).isSome) rfl (by rfl) ?_
        refine WL.to (To.alloc (cs := [.string (strOfNums [])]) zr34 rfl) rfl ?_ -- t9
        intro b9
        refine WL.sto (Sto.agg sz34 rfl rfl (by repeat (first | exact Take1.head | apply Take1.tail)) (tm_ones _) rfl (by rfl) (show _ = tmC v9 from rfl)) (fun _ h => nomatch h) ?_ -- st 5
        refine WL.y (Yl.assign rfl) rfl ?_ -- t10
        refine WL.nil ?_
        refine WC.seq ?_
        refine WC.drawRead mixed (by kernel_rfl) ?_
        refine WH.y (Yl.move rfl) rfl ?_ -- t55
        refine WH.y (Yl.move rfl) rfl ?_ -- t56
        refine WH.both (t := 56) rfl (fun g56 => ?_) (fun g56 => ?_)
        · refine WH.on rfl rfl ?_
          refine WH.y (Yl.loadN ag34 rfl (by repeat (first | exact Take1.head | apply Take1.tail)) (by rfl) (show _ = tmC v9 from rfl)) rfl ?_ -- t57
          refine WH.on rfl rfl ?_
          refine WH.y (Yl.move rfl) rfl ?_ -- t58
          refine WH.on rfl rfl ?_
          refine WH.y (Yl.move rfl) rfl ?_ -- t59
          refine WH.on rfl rfl ?_
          refine WH.y (Yl.index un25 sz34 rfl rfl (Reads.of (r := ownR (.slice ym.1 (tmO P m).length ym.2) 34 1 (tmO P m).length (vcs tmV (tmO P m))) RdOf.own (by repeat (first | exact Take1.head | apply Take1.tail))) rfl (by omega)) rfl ?_ -- t60
          refine WH.on rfl rfl ?_
          refine WH.y (Yl.loadV vtM hO rfl (Reads.of (r := ownR (.slice ym.1 (tmO P m).length ym.2) 34 1 (tmO P m).length (vcs tmV (tmO P m))) RdOf.own (by repeat (first | exact Take1.head | apply Take1.tail))) rfl hT) rfl ?_ -- t61
          refine WH.on rfl rfl ?_
          refine WH.y (Yl.neqG rfl rfl (fun w => neM_op hv9o holm w)) rfl ?_ -- t62
          refine WH.know (t := 62) (b' := false) rfl (by
            have : v9 = some (trP P j) := by
              rw [← hv9]
              rcases hgot with h | h
              · rw [h] at g56; cases g56
              · rw [h]; rfl
            rw [this]; simp [tmO1]) ?_
          refine WH.y (Yl.pickT rfl rfl) rfl ?_ -- t63
          refine WH.nil ?_
          refine WC.condF rfl (by first | rfl | (simp; done) | (simp; omega)) ?_
          refine WC.skip ?_
          refine WC.drawTail 6 mixed (by kernel_rfl) ?_
          refine WH.y (Yl.load on32 rfl (by repeat (first | exact Take1.head | apply Take1.tail)) (by rfl)) rfl ?_ -- t64
          refine WH.y (Yl.move rfl) rfl ?_ -- t65
          refine WH.y (Yl.move rfl) rfl ?_ -- t66
          refine WH.y (Yl.move rfl) rfl ?_ -- t67
          refine WH.y (Yl.index un25 sz34 rfl rfl (Reads.of (r := ownR (.slice ym.1 (tmO P m).length ym.2) 34 1 (tmO P m).length (vcs tmV (tmO P m))) RdOf.own (by repeat (first | exact Take1.head | apply Take1.tail))) rfl (by omega)) rfl ?_ -- t68
          refine WH.y (Yl.loadV vtM hO rfl (Reads.of (r := ownR (.slice ym.1 (tmO P m).length ym.2) 34 1 (tmO P m).length (vcs tmV (tmO P m))) RdOf.own (by repeat (first | exact Take1.head | apply Take1.tail))) rfl hT) rfl ?_ -- t69
          refine WH.nil ?_
          refine WP.sto (Sto.mapPut (v := some (trP P j)) (q := (j : Int)) (m := mp) (kv := Value.int .i64) keyI un32 hwf rfl rfl hwj rfl (by repeat (first | exact Take1.head | apply Take1.tail))) (fun _ h => nomatch h) ?_ -- st 7
          refine WP.nil ?_
          refine WC.region ?_
          refine WL.y (Yl.add rfl rfl (IntWalk.i64_in _ (by omega))) rfl ?_ -- t70
          refine WL.y (Yl.move rfl) rfl ?_ -- t33
          refine WL.nil ?_
          exact ⟨rfl, (i + 1, mput mp (j : Int) (some (trP P j))), ⟨by dsimp only; omega, hof.put hjl ho⟩, by dsimp only; omega, (by repeat (first | exact Sub.nil | refine Sub.cons rfl ?_)), _, (by repeat (first | exact TakeL.nil | (apply TakeL.cons; · repeat (first | exact Take1.head | apply Take1.tail))))⟩
        · refine WH.off rfl rfl rfl rfl ?_ -- t57
          refine WH.off rfl rfl rfl rfl ?_ -- t58
          refine WH.off rfl rfl rfl rfl ?_ -- t59
          refine WH.off rfl rfl rfl rfl ?_ -- t60
          refine WH.off rfl rfl rfl rfl ?_ -- t61
          refine WH.off rfl rfl rfl rfl ?_ -- t62
          refine WH.y (Yl.pickF rfl rfl) rfl ?_ -- t63
          refine WH.nil ?_
          refine WC.condF rfl (by first | rfl | (simp; done) | (simp; omega)) ?_
          refine WC.skip ?_
          refine WC.drawTail 6 mixed (by kernel_rfl) ?_
          refine WH.y (Yl.load on32 rfl (by repeat (first | exact Take1.head | apply Take1.tail)) (by rfl)) rfl ?_ -- t64
          refine WH.y (Yl.move rfl) rfl ?_ -- t65
          refine WH.y (Yl.move rfl) rfl ?_ -- t66
          refine WH.y (Yl.move rfl) rfl ?_ -- t67
          refine WH.y (Yl.index un25 sz34 rfl rfl (Reads.of (r := ownR (.slice ym.1 (tmO P m).length ym.2) 34 1 (tmO P m).length (vcs tmV (tmO P m))) RdOf.own (by repeat (first | exact Take1.head | apply Take1.tail))) rfl (by omega)) rfl ?_ -- t68
          refine WH.y (Yl.loadV vtM hO rfl (Reads.of (r := ownR (.slice ym.1 (tmO P m).length ym.2) 34 1 (tmO P m).length (vcs tmV (tmO P m))) RdOf.own (by repeat (first | exact Take1.head | apply Take1.tail))) rfl hT) rfl ?_ -- t69
          refine WH.nil ?_
          refine WP.sto (Sto.mapPut (v := some (trP P j)) (q := (j : Int)) (m := mp) (kv := Value.int .i64) keyI un32 hwf rfl rfl hwj rfl (by repeat (first | exact Take1.head | apply Take1.tail))) (fun _ h => nomatch h) ?_ -- st 7
          refine WP.nil ?_
          refine WC.region ?_
          refine WL.y (Yl.add rfl rfl (IntWalk.i64_in _ (by omega))) rfl ?_ -- t70
          refine WL.y (Yl.move rfl) rfl ?_ -- t33
          refine WL.nil ?_
          exact ⟨rfl, (i + 1, mput mp (j : Int) (some (trP P j))), ⟨by dsimp only; omega, hof.put hjl ho⟩, by dsimp only; omega, (by repeat (first | exact Sub.nil | refine Sub.cons rfl ?_)), _, (by repeat (first | exact TakeL.nil | (apply TakeL.cons; · repeat (first | exact Take1.head | apply Take1.tail))))⟩
      · refine WC.skip ?_
        refine WC.region ?_
        refine WL.y (Yl.add rfl rfl (IntWalk.i64_in _ (by omega))) rfl ?_ -- t70
        refine WL.y (Yl.move rfl) rfl ?_ -- t33
        refine WL.nil ?_
        have h0 := plI_none g48
        subst h0
        exact ⟨rfl, (i + 1, mp), ⟨by dsimp only; omega, hof.skip ho⟩, by dsimp only; omega, (by repeat (first | exact Sub.nil | refine Sub.cons rfl ?_)), _, (by repeat (first | exact TakeL.nil | (apply TakeL.cons; · repeat (first | exact Take1.head | apply Take1.tail))))⟩
    · refine WC.exit ?_
      refine WC.seq ?_
      refine WC.seq ?_
      refine WC.region ?_
      refine WL.y (Yl.move rfl) rfl ?_ -- t71
      refine WL.y (Yl.len un29 rfl) rfl ?_ -- t72
      refine WL.y (Yl.move rfl) rfl ?_ -- t73
      refine WL.nil ?_
      refine WC.block ?_
      have him : i = m.length := by have := g34; omega
      subst him
      refine WC.view (fun w h => h.mark0) ?_
      refine WC.loopM (α := Nat × List Nat) (fun s => [(2, .pointer (some ⟨b2, 0, none⟩)), (3, .slice ym.1 (tmO P m).length ym.2), (4, .slice y.1 ps.length y.2), (5, .slice q.1 m.length q.2), (6, .pointer (some ⟨b6, 0, none⟩)), (71, .slice q.1 m.length q.2), (72, .int .i64 (m.length : Int)), (73, .int .i64 (s.1 : Int))]) (fun s => [markR s.2, blkR b2 4 [.bool false], ownR (.slice ym.1 (tmO P m).length ym.2) 34 1 (tmO P m).length (vcs tmV (tmO P m)), ownR (.slice y.1 ps.length y.2) 38 3 ps.length (vcs pnV ps), bunR (pnL ps), ownR (.slice q.1 m.length q.2) 3 1 m.length (ints .i64 (mdI m)), blkR b6 32 [.map (some b30)], mapR (Value.int .i64) tmV b30 mp]) (fun s => s.2.map dM) (fun s => s.1 ≤ m.length) (fun s => m.length - s.1) (0, []) (Nat.zero_le _) rfl ⟨(by repeat (first | exact Sub.nil | refine Sub.cons rfl ?_)), _, (by repeat (first | exact TakeL.nil | (apply TakeL.cons; · repeat (first | exact Take1.head | apply Take1.tail))))⟩ ?_
      rintro ⟨i, Dl⟩ hi
      dsimp only at hi ⊢
      refine WC.seq ?_
      refine WC.region ?_
      refine WL.y (Yl.lss rfl rfl) rfl ?_ -- t74
      refine WL.nil ?_
      refine WC.seq ?_
      refine WC.condD rfl (fun g74 => ?_) (fun g74 => ?_)
      · refine WC.skip ?_
        refine WC.seq ?_
        refine WC.block ?_
        refine WC.seq ?_
        have hil : i < m.length := by have := g74; omega
        obtain ⟨o, ho⟩ : ∃ o, m[i]? = some o := ⟨_, List.getElem?_eq_getElem hil⟩
        have hT := tmO_get (P := P) ho
        have hom := List.mem_of_getElem? ho
        refine WC.region ?_
        refine WL.y (Yl.move rfl) rfl ?_ -- t75
        refine WL.y (Yl.index un29 sz3 rfl rfl (Reads.of (r := ownR (.slice q.1 m.length q.2) 3 1 m.length (ints .i64 (mdI m))) RdOf.own (by repeat (first | exact Take1.head | apply Take1.tail))) rfl (by omega)) rfl ?_ -- t76
        refine WL.y (Yl.loadE (j := i) (u := .int .i64 (plI o)) on3 rfl (Reads.of (r := ownR (.slice q.1 m.length q.2) 3 1 m.length (ints .i64 (mdI m))) RdOf.own (by repeat (first | exact Take1.head | apply Take1.tail))) (mdI_cell ho)) rfl ?_
        refine WL.y (Yl.assign rfl) rfl ?_ -- t11
        refine WL.y (Yl.assign rfl) rfl ?_ -- t12
        refine WL.nil ?_
        refine WC.seq ?_
        refine WC.seq ?_
        refine WC.region ?_
        refine WL.y (Yl.move rfl) rfl ?_ -- t78
        refine WL.y (Yl.lss rfl rfl) rfl ?_ -- t79
        refine WL.nil ?_
        refine WC.condD rfl (fun g79 => ?_) (fun g79 => ?_)
        · refine WC.exit ?_
          refine WC.region ?_
          refine WL.y (Yl.add rfl rfl (IntWalk.i64_in _ (by omega))) rfl ?_ -- t188
          refine WL.y (Yl.move rfl) rfl ?_ -- t73
          refine WL.nil ?_
          exact ⟨(i + 1, Dl), rfl, by dsimp only; omega, by dsimp only; omega, (by repeat (first | exact Sub.nil | refine Sub.cons rfl ?_)), _, (by repeat (first | exact TakeL.nil | (apply TakeL.cons; · repeat (first | exact Take1.head | apply Take1.tail))))⟩
        · refine WC.skip ?_
          obtain ⟨p, rfl⟩ := plI_some (o := o) (by omega)
          have hpl := hwk.md p hom
          obtain ⟨z, hz⟩ : ∃ z, ps[p]? = some z := ⟨_, List.getElem?_eq_getElem (by omega)⟩
          have hzm := List.mem_of_getElem? hz
          have hzg : P[p]? = some z.nd := by rw [← hps]; exact nds_get hz
          have hzn := hwk.p.nd p _ hzg
          have hptl := shp_ptl hzn.s
          have hto := hwk.ok hpl
          have hoo : OkO (some (trP P p)) := fun t e => by cases e; exact hto.1
          have hkd := tr_kd hwk.p hzg
          have hnu := tr_nu hwk.p hzg
          obtain ⟨hpt0, hpt1, hpt6⟩ := tr_pt hwk.p hzg
          refine WC.midE (α := Nat × Nat) (fun b => [(13, .pointer (some ⟨b.1, 0, none⟩)), (14, .pointer (some ⟨b.2, 0, none⟩))]) (fun b => [blkR b.1 38 z.cells, blkR b.2 34 (tmC (some (trP P p))), markR Dl, blkR b2 4 [.bool false], ownR (.slice ym.1 (tmO P m).length ym.2) 34 1 (tmO P m).length (vcs tmV (tmO P m)), ownR (.slice y.1 ps.length y.2) 38 3 ps.length (vcs pnV ps), bunR (pnL ps), ownR (.slice q.1 m.length q.2) 3 1 m.length (ints .i64 (mdI m)), blkR b6 32 [.map (some b30)], mapR (Value.int .i64) tmV b30 mp]) (fun _ => True) ?_ ?_
          · refine WC.drawAny (Hs := [ownR (.slice ym.1 (tmO P m).length ym.2) 34 1 (tmO P m).length (vcs tmV (tmO P m)), ownR (.slice y.1 ps.length y.2) 38 3 ps.length (vcs pnV ps)]) mixed (by kernel_rfl) ⟨_, (by repeat (first | exact TakeL.nil | (apply TakeL.cons; · repeat (first | exact Take1.head | apply Take1.tail))))⟩ ?_
            refine WD.take 0 rfl (by kernel_rfl) (by kernel_rfl) (by kernel_rfl) rfl rfl (Yl.move rfl) rfl ?_ -- t80
            refine WD.take 1 rfl (by kernel_rfl) (by kernel_rfl) (by kernel_rfl) rfl rfl (Yl.move rfl) rfl ?_ -- t81
            refine WD.take 2 rfl (by kernel_rfl) (by kernel_rfl) (by kernel_rfl) rfl rfl (Yl.index un28 sz38 rfl rfl (Reads.of (r := ownR (.slice y.1 ps.length y.2) 38 3 ps.length (vcs pnV ps)) RdOf.own (by repeat (first | exact Take1.head | apply Take1.tail))) (j := p) rfl (by omega)) rfl ?_ -- t82
            refine WD.take 3 rfl (by kernel_rfl) (by kernel_rfl) (by kernel_rfl) rfl rfl (Yl.loadV vtPn pnAll rfl (Reads.of (r := ownR (.slice y.1 ps.length y.2) 38 3 ps.length (vcs pnV ps)) RdOf.own (by repeat (first | exact Take1.head | apply Take1.tail))) rfl hz) rfl ?_ -- t83
            refine WD.take 4 rfl (by kernel_rfl) (by kernel_rfl) (by kernel_rfl) rfl rfl (Yl.move rfl) rfl ?_ -- t84
            refine WD.take 5 rfl (by kernel_rfl) (by kernel_rfl) (by kernel_rfl) rfl rfl (Yl.move rfl) rfl ?_ -- t85
            refine WD.take 6 rfl (by kernel_rfl) (by kernel_rfl) (by kernel_rfl) rfl rfl (Yl.index un25 sz34 rfl rfl (Reads.of (r := ownR (.slice ym.1 (tmO P m).length ym.2) 34 1 (tmO P m).length (vcs tmV (tmO P m))) RdOf.own (by repeat (first | exact Take1.head | apply Take1.tail))) rfl (by omega)) rfl ?_ -- t86
            refine WD.take 7 rfl (by kernel_rfl) (by kernel_rfl) (by kernel_rfl) rfl rfl (Yl.loadV vtM hO rfl (Reads.of (r := ownR (.slice ym.1 (tmO P m).length ym.2) 34 1 (tmO P m).length (vcs tmV (tmO P m))) RdOf.own (by repeat (first | exact Take1.head | apply Take1.tail))) rfl hT) rfl ?_ -- t87
            refine WD.two 8 9 (by kernel_rfl) ?_ ?_
            · refine WO.to rfl rfl .no (To.alloc (cs := [.int .u8 0, .int .u64 0, .slice none 0 0]) zr38 rfl) rfl (fun _ => ⟨_, (by repeat (first | exact TakeL.nil | (apply TakeL.cons; · repeat (first | exact Take1.head | apply Take1.tail))))⟩) ?_ -- t13
              intro b13
              refine WD.one 9 (by kernel_rfl) ?_
              refine WO.to rfl rfl .no (To.alloc (cs := [.string (strOfNums [])]) zr34 rfl) rfl (fun _ => ⟨_, (by repeat (first | exact TakeL.nil | (apply TakeL.cons; · repeat (first | exact Take1.head | apply Take1.tail))))⟩) ?_ -- t14
              intro b14
              refine WD.one 10 (by kernel_rfl) ?_
              refine WO.sto rfl rfl .no (Sto.agg sz38 rfl rfl (by repeat (first | exact Take1.head | apply Take1.tail)) z.ones rfl (by rfl) (show _ = z.cells from rfl)) ⟨_, (by repeat (first | exact TakeL.nil | (apply TakeL.cons; · repeat (first | exact Take1.head | apply Take1.tail))))⟩ ?_ -- st 8
              refine WD.one 11 (by kernel_rfl) ?_
              refine WO.sto rfl rfl .no (Sto.agg sz34 rfl rfl (by repeat (first | exact Take1.head | apply Take1.tail)) (tm_ones _) rfl (by rfl) (show _ = tmC (some (trP P p)) from rfl)) ⟨_, (by repeat (first | exact TakeL.nil | (apply TakeL.cons; · repeat (first | exact Take1.head | apply Take1.tail))))⟩ ?_ -- st 9
              refine WD.done (by kernel_rfl) ?_
              exact ⟨rfl, (_, _), trivial, (by repeat (first | exact Sub.nil | refine Sub.cons rfl ?_)), (by repeat (first | exact Sub.nil | refine Sub.cons rfl ?_)), _, (by repeat (first | exact TakeL.nil | (apply TakeL.cons; · repeat (first | exact Take1.head | apply Take1.tail))))⟩
            · refine WO.to rfl rfl .no (To.alloc (cs := [.string (strOfNums [])]) zr34 rfl) rfl (fun _ => ⟨_, (by repeat (first | exact TakeL.nil | (apply TakeL.cons; · repeat (first | exact Take1.head | apply Take1.tail))))⟩) ?_ -- t14
              intro b14
              refine WD.one 8 (by kernel_rfl) ?_
              refine WO.to rfl rfl .no (To.alloc (cs := [.int .u8 0, .int .u64 0, .slice none 0 0]) zr38 rfl) rfl (fun _ => ⟨_, (by repeat (first | exact TakeL.nil | (apply TakeL.cons; · repeat (first | exact Take1.head | apply Take1.tail))))⟩) ?_ -- t13
              intro b13
              refine WD.one 10 (by kernel_rfl) ?_
              refine WO.sto rfl rfl .no (Sto.agg sz38 rfl rfl (by repeat (first | exact Take1.head | apply Take1.tail)) z.ones rfl (by rfl) (show _ = z.cells from rfl)) ⟨_, (by repeat (first | exact TakeL.nil | (apply TakeL.cons; · repeat (first | exact Take1.head | apply Take1.tail))))⟩ ?_ -- st 8
              refine WD.one 11 (by kernel_rfl) ?_
              refine WO.sto rfl rfl .no (Sto.agg sz34 rfl rfl (by repeat (first | exact Take1.head | apply Take1.tail)) (tm_ones _) rfl (by rfl) (show _ = tmC (some (trP P p)) from rfl)) ⟨_, (by repeat (first | exact TakeL.nil | (apply TakeL.cons; · repeat (first | exact Take1.head | apply Take1.tail))))⟩ ?_ -- st 9
              refine WD.done (by kernel_rfl) ?_
              exact ⟨rfl, (_, _), trivial, (by repeat (first | exact Sub.nil | refine Sub.cons rfl ?_)), (by repeat (first | exact Sub.nil | refine Sub.cons rfl ?_)), _, (by repeat (first | exact TakeL.nil | (apply TakeL.cons; · repeat (first | exact Take1.head | apply Take1.tail))))⟩
          · rintro ⟨b13, b14⟩ -
            dsimp only [List.cons_append, List.nil_append]
            refine WC.seq ?_
            refine WC.seq ?_
            refine WC.region ?_
            refine WL.y (Yl.move rfl) rfl ?_ -- t88
            refine WL.y (Yl.move rfl) rfl ?_ -- t89
            refine WL.nil ?_
            refine WC.block ?_
            refine WC.loop (α := Nat) (fun j => [(2, .pointer (some ⟨b2, 0, none⟩)), (3, .slice ym.1 (tmO P m).length ym.2), (4, .slice y.1 ps.length y.2), (5, .slice q.1 m.length q.2), (6, .pointer (some ⟨b6, 0, none⟩)), (12, .int .i64 (plI (some p))), (13, .pointer (some ⟨b13, 0, none⟩)), (14, .pointer (some ⟨b14, 0, none⟩)), (71, .slice q.1 m.length q.2), (72, .int .i64 (m.length : Int)), (73, .int .i64 (i : Int)), (88, .int .i64 (i : Int)), (89, .int .i64 (j : Int))]) (fun _ => [blkR b13 38 z.cells, blkR b14 34 (tmC (some (trP P p))), markR Dl, blkR b2 4 [.bool false], ownR (.slice ym.1 (tmO P m).length ym.2) 34 1 (tmO P m).length (vcs tmV (tmO P m)), ownR (.slice y.1 ps.length y.2) 38 3 ps.length (vcs pnV ps), bunR (pnL ps), ownR (.slice q.1 m.length q.2) 3 1 m.length (ints .i64 (mdI m)), blkR b6 32 [.map (some b30)], mapR (Value.int .i64) tmV b30 mp]) (fun j => j ≤ i) (fun j => i - j) 0 (Nat.zero_le _) ⟨(by repeat (first | exact Sub.nil | refine Sub.cons rfl ?_)), _, (by repeat (first | exact TakeL.nil | (apply TakeL.cons; · repeat (first | exact Take1.head | apply Take1.tail))))⟩ ?_
            intro j hj
            refine WC.seq ?_
            refine WC.region ?_
            refine WL.y (Yl.lss rfl rfl) rfl ?_ -- t90
            refine WL.nil ?_
            refine WC.seq ?_
            refine WC.condD rfl (fun g90 => ?_) (fun g90 => ?_)
            · refine WC.skip ?_
              refine WC.seq ?_
              refine WC.block ?_
              refine WC.seq ?_
              have hjl : j < i := by have := g90; omega
              obtain ⟨r, hr⟩ : ∃ o, m[j]? = some o := ⟨_, List.getElem?_eq_getElem (by omega)⟩
              have hTr := tmO_get (P := P) hr
              have hrm := List.mem_of_getElem? hr
              refine WC.region ?_
              refine WL.y (Yl.move rfl) rfl ?_ -- t91
              refine WL.y (Yl.assign rfl) rfl ?_ -- t15
              refine WL.nil ?_
              refine WC.seq ?_
              refine WC.drawRead mixed (by kernel_rfl) ?_
              refine WH.y (Yl.loadN ag34 rfl (by repeat (first | exact Take1.head | apply Take1.tail)) (by rfl) (show _ = tmC (some (trP P p)) from rfl)) rfl ?_ -- t92
              refine WH.y (Yl.move rfl) rfl ?_ -- t93
              refine WH.y (Yl.move rfl) rfl ?_ -- t94
              refine WH.y (Yl.index un25 sz34 rfl rfl (Reads.of (r := ownR (.slice ym.1 (tmO P m).length ym.2) 34 1 (tmO P m).length (vcs tmV (tmO P m))) RdOf.own (by repeat (first | exact Take1.head | apply Take1.tail))) rfl (by omega)) rfl ?_ -- t95
              refine WH.y (Yl.loadV vtM hO rfl (Reads.of (r := ownR (.slice ym.1 (tmO P m).length ym.2) 34 1 (tmO P m).length (vcs tmV (tmO P m))) RdOf.own (by repeat (first | exact Take1.head | apply Take1.tail))) rfl hTr) rfl ?_ -- t96
              refine WH.y (Yl.eqlG rfl rfl (fun w => eqM_op hoo (hwk.lm hrm).1 w)) rfl ?_ -- t97
              refine WH.y (Yl.move rfl) rfl ?_ -- t98
              refine WH.y (Yl.move rfl) rfl ?_ -- t99
              refine WH.y (Yl.move rfl) rfl ?_ -- t100
              refine WH.y (Yl.index un29 sz3 rfl rfl (Reads.of (r := ownR (.slice q.1 m.length q.2) 3 1 m.length (ints .i64 (mdI m))) RdOf.own (by repeat (first | exact Take1.head | apply Take1.tail))) rfl (by omega)) rfl ?_ -- t101
              refine WH.y (Yl.loadE (j := j) (u := .int .i64 (plI r)) on3 rfl (Reads.of (r := ownR (.slice q.1 m.length q.2) 3 1 m.length (ints .i64 (mdI m))) RdOf.own (by repeat (first | exact Take1.head | apply Take1.tail))) (mdI_cell hr)) rfl ?_
              refine WH.y (Yl.eql rfl rfl) rfl ?_ -- t103
              refine WH.y (Yl.bNe un4 rfl rfl) rfl ?_ -- t104
              refine WH.know (t := 104) (b' := false) rfl (by
                have := hwk.same hom hrm
                rw [show decide (encO (some (trP P p)) = encO (tmO1 P r)) = decide (plI (some p) = plI r) from decide_eq_decide.2 this]
                simp) ?_
              refine WH.nil ?_
              refine WC.condF rfl (by first | rfl | (simp; done) | (simp; omega)) ?_
              refine WC.skip ?_
              refine WC.region ?_
              refine WL.y (Yl.add rfl rfl (IntWalk.i64_in _ (by omega))) rfl ?_ -- t105
              refine WL.y (Yl.move rfl) rfl ?_ -- t89
              refine WL.nil ?_
              exact ⟨rfl, j + 1, by omega, by omega, (by repeat (first | exact Sub.nil | refine Sub.cons rfl ?_)), _, (by repeat (first | exact TakeL.nil | (apply TakeL.cons; · repeat (first | exact Take1.head | apply Take1.tail))))⟩
            · refine WC.exit ?_
              refine WC.seq ?_
              refine WC.region ?_
              refine WL.to (To.alloc (cs := [.int .i64 0]) zr3 rfl) rfl ?_ -- t16
              intro b16
              refine WL.sto (Sto.one sz3 rfl rfl (by repeat (first | exact Take1.head | apply Take1.tail)) rfl (by rfl) (by rfl)) (fun _ h => nomatch h) ?_ -- st 11
              refine WL.nil ?_
              refine WC.seq ?_
              refine WC.seq ?_
              refine WC.region ?_
              refine WL.y (Yl.loadN ag34 rfl (by repeat (first | exact Take1.head | apply Take1.tail)) (by rfl) (show _ = tmC (some (trP P p)) from rfl)) rfl ?_ -- t106
              refine WL.callC (xs := [.tmp 106]) (cap := []) rfl rfl en10 (by repeat (first | exact TakeL.nil | (apply TakeL.cons; · repeat (first | exact Take1.head | apply Take1.tail)))) (fun w hw => parts_any (some (trP P p)) hoo (by show (trP P p).enc.length ≤ _; omega) w hw.left.here) rfl ?_ -- t107 (hailer/term.Term).Parts
              rintro ⟨bn, own⟩ -
              rw [show ptO (some (trP P p)) = (trP P p).pt from rfl]
              dsimp only [List.cons_append, List.nil_append]
              refine WL.nil ?_
              refine WC.block ?_
              refine WC.range (α := Unit) (lb := [.pointer (some ⟨bn, 0, none⟩)]) (xs := yrM (trP P p).pt) (fun k _ => [blkR b16 3 [.int .i64 (k : Int)], blkR b13 38 z.cells, blkR b2 4 [.bool false], bunR (pnL ps), blkR b6 32 [.map (some b30)], mapR (Value.int .i64) tmV b30 mp]) (fun k _ => True) () rfl en30 yrM_size rfl (by repeat (first | exact Take1.head | apply Take1.tail)) trivial (by repeat (first | exact TakeL.nil | (apply TakeL.cons; · repeat (first | exact Take1.head | apply Take1.tail)))) ?_ ?_
              · rintro l2 k x ⟨⟩ hx2 - W
                dsimp only
                obtain ⟨x, hx0, rfl⟩ := yrM_at hx2
                have hkl : k < z.nd.pt.length := by rw [← hpt0]; exact (List.getElem?_eq_some_iff.1 hx0).1
                have hxok : OkO (some x) := fun t e => by
                  cases e
                  by_cases h6 : z.nd.k = 6
                  · obtain ⟨_, j, r, hj, hr, h | h⟩ := hpt6 h6 k x hx0
                    · rw [h]; exact (hwk.ok (Nat.lt_trans (hzn.p j (List.mem_of_getElem? hj)) hpl)).1
                    · rw [h]; exact (hwk.ok (Nat.lt_trans (hzn.p r (List.mem_of_getElem? hr)) hpl)).1
                  · obtain ⟨j, hj, h⟩ := hpt1 h6 k x hx0
                    rw [h]; exact (hwk.ok (Nat.lt_trans (hzn.p j (List.mem_of_getElem? hj)) hpl)).1
                show WC _ _ _ ((108, tmV (some x)) :: _) _ _
                refine WC.region ?_
                refine WL.to (To.alloc (cs := [.string (strOfNums [])]) zr34 rfl) rfl ?_ -- t17
                intro b17
                refine WL.sto (Sto.agg sz34 rfl rfl (by repeat (first | exact Take1.head | apply Take1.tail)) (tm_ones _) rfl (by rfl) (show _ = tmC (some x) from rfl)) (fun _ h => nomatch h) ?_ -- st 12
                refine WL.nil ?_
                repeat (first | (with_reducible refine peelT ?_) | (with_reducible refine peelB ?_) | (with_reducible refine peelTX ?_) | (with_reducible refine peelBX ?_) | (with_reducible refine peelBN ?_) | (with_reducible refine peelBO rfl ?_))
                refine fun W2 => ?_
                refine WC.block ?_
                refine WC.seq ?_
                obtain ⟨j, hj⟩ : ∃ j, z.nd.pt[k]? = some j := ⟨_, List.getElem?_eq_getElem hkl⟩
                have hjP := Nat.lt_trans (hzn.p j (List.mem_of_getElem? hj)) hpl
                have hgj := hof.full hwk hjP
                have hwfm := hof.wf (by omega)
                have hwj : (Lit.int .i64 (j : Int)).wf = true := wfI ⟨by omega, by omega⟩
                have hjo : OkO (some (trP P j)) := fun t e => by cases e; exact (hwk.ok hjP).1
                refine WC.region ?_
                refine WL.y (Yl.load on3 rfl (by repeat (first | exact Take1.head | apply Take1.tail)) (by rfl)) rfl ?_ -- t109
                refine WL.y (Yl.assign rfl) rfl ?_ -- t18
                refine WL.nil ?_
                refine WC.seq ?_
                refine WC.seq ?_
                refine WC.region ?_
                refine WL.y (Yl.field fo38_0 rfl) rfl ?_ -- t110
                refine WL.y (Yl.load on5 rfl (by repeat (first | exact Take1.head | apply Take1.tail)) (by rfl)) rfl ?_ -- t111
                refine WL.y (Yl.eql rfl rfl) rfl ?_ -- t112
                refine WL.nil ?_
                refine WC.condD rfl (fun g112 => ?_) (fun g112 => ?_)
                · have h6 : z.nd.k = 6 := g112
                  obtain ⟨hk1, j', r, hj', hr, hxx⟩ := hpt6 h6 k x hx0
                  obtain rfl : j = j' := by rw [hj] at hj'; cases hj'; rfl
                  have hrP := Nat.lt_trans (hzn.p r (List.mem_of_getElem? hr)) hpl
                  have hrl := (List.getElem?_eq_some_iff.1 hr).1
                  have hgr := hof.full hwk hrP
                  have hwr : (Lit.int .i64 (r : Int)).wf = true := wfI ⟨by omega, by omega⟩
                  have hro : OkO (some (trP P r)) := fun t e => by cases e; exact (hwk.ok hrP).1
                  refine WC.region ?_
                  refine WL.y (Yl.load on3 rfl (by repeat (first | exact Take1.head | apply Take1.tail)) (by rfl)) rfl ?_ -- t113
                  refine WL.y (Yl.sub rfl rfl (IntWalk.i64_in _ (by omega))) rfl ?_ -- t114
                  refine WL.say (t := 114) (v' := .int .i64 ((1 - k : Nat) : Int)) rfl (by (refine congrArg (Value.int .i64) ?_; omega)) ?_
                  refine WL.y (Yl.assign rfl) rfl ?_ -- t18
                  refine WL.nil ?_
                  refine WC.seq ?_
                  refine WC.seq ?_
                  refine WC.drawRead mixed (by kernel_rfl) ?_
                  refine WH.y (Yl.load on3 rfl (by repeat (first | exact Take1.head | apply Take1.tail)) (by rfl)) rfl ?_ -- t115
                  refine WH.y (Yl.field fo38_2 rfl) rfl ?_ -- t116
                  refine WH.y (Yl.load on29 rfl (by repeat (first | exact Take1.head | apply Take1.tail)) (by rfl)) rfl ?_ -- t117
                  refine WH.y (Yl.len un29 rfl) rfl ?_ -- t118
                  refine WH.y (Yl.geq rfl rfl) rfl ?_ -- t119
                  refine WH.know (t := 119) (b' := false) rfl (by simp; omega) ?_
                  refine WH.y (Yl.move rfl) rfl ?_ -- t120
                  refine WH.on rfl rfl ?_
                  refine WH.y (Yl.loadN ag34 rfl (by repeat (first | exact Take1.head | apply Take1.tail)) (by rfl) (show _ = tmC (some x) from rfl)) rfl ?_ -- t121
                  refine WH.on rfl rfl ?_
                  refine WH.y (Yl.load on32 rfl (by repeat (first | exact Take1.head | apply Take1.tail)) (by rfl)) rfl ?_ -- t122
                  refine WH.on rfl rfl ?_
                  refine WH.y (Yl.field fo38_2 rfl) rfl ?_ -- t123
                  refine WH.on rfl rfl ?_
                  refine WH.y (Yl.load on29 rfl (by repeat (first | exact Take1.head | apply Take1.tail)) (by rfl)) rfl ?_ -- t124
                  refine WH.on rfl rfl ?_
                  refine WH.y (Yl.load on3 rfl (by repeat (first | exact Take1.head | apply Take1.tail)) (by rfl)) rfl ?_ -- t125
                  refine WH.on rfl rfl ?_
                  refine WH.y (Yl.index un29 sz3 rfl rfl (Reads.of (RdOf.bun (A := pnL ps) (List.mem_map.2 ⟨z, hzm, rfl⟩)) (by repeat (first | exact Take1.head | apply Take1.tail))) rfl (by omega)) rfl ?_ -- t126
                  refine WH.on rfl rfl ?_
                  refine WH.y (Yl.loadE (j := k) on3 rfl (Reads.of (RdOf.bun (A := pnL ps) (List.mem_map.2 ⟨z, hzm, rfl⟩)) (by repeat (first | exact Take1.head | apply Take1.tail))) (iN_cell hj)) rfl ?_
                  refine WH.on rfl rfl ?_
                  refine WH.y (Yl.lookup (kv := Value.int .i64) keyI un32 (fun _ => by kernel_rfl) (z := .agg #[.string ByteArray.empty]) hwfm rfl rfl hwj (MReads.of (m := mp) MapOf.own (by repeat (first | exact Take1.head | apply Take1.tail)))) rfl ?_ -- t128
                  refine WH.say (t := 128) (v' := tmV (some (trP P j))) rfl (by (rw [hgj]; rfl)) ?_
                  refine WH.on rfl rfl ?_
                  refine WH.y (Yl.neqG rfl rfl (fun w => neM_op hxok hjo w)) rfl ?_ -- t129
                  refine WH.on rfl rfl ?_
                  refine WH.y (Yl.move rfl) rfl ?_ -- t130
                  refine WH.both (t := 130) rfl (fun g130 => ?_) (fun g130 => ?_)
                  · refine WH.on rfl rfl ?_
                    refine WH.y (Yl.loadN ag34 rfl (by repeat (first | exact Take1.head | apply Take1.tail)) (by rfl) (show _ = tmC (some x) from rfl)) rfl ?_ -- t131
                    refine WH.on rfl rfl ?_
                    refine WH.y (Yl.load on32 rfl (by repeat (first | exact Take1.head | apply Take1.tail)) (by rfl)) rfl ?_ -- t132
                    refine WH.on rfl rfl ?_
                    refine WH.y (Yl.field fo38_2 rfl) rfl ?_ -- t133
                    refine WH.on rfl rfl ?_
                    refine WH.y (Yl.load on29 rfl (by repeat (first | exact Take1.head | apply Take1.tail)) (by rfl)) rfl ?_ -- t134
                    refine WH.on rfl rfl ?_
                    refine WH.y (Yl.move rfl) rfl ?_ -- t135
                    refine WH.on rfl rfl ?_
                    refine WH.y (Yl.index un29 sz3 rfl rfl (Reads.of (RdOf.bun (A := pnL ps) (List.mem_map.2 ⟨z, hzm, rfl⟩)) (by repeat (first | exact Take1.head | apply Take1.tail))) (j := 1 - k) rfl (by omega)) rfl ?_ -- t136
                    refine WH.on rfl rfl ?_
                    refine WH.y (Yl.loadE (j := 1 - k) on3 rfl (Reads.of (RdOf.bun (A := pnL ps) (List.mem_map.2 ⟨z, hzm, rfl⟩)) (by repeat (first | exact Take1.head | apply Take1.tail))) (iN_cell hr)) rfl ?_
                    refine WH.on rfl rfl ?_
                    refine WH.y (Yl.lookup (kv := Value.int .i64) keyI un32 (fun _ => by kernel_rfl) (z := .agg #[.string ByteArray.empty]) hwfm rfl rfl hwr (MReads.of (m := mp) MapOf.own (by repeat (first | exact Take1.head | apply Take1.tail)))) rfl ?_ -- t138
                    refine WH.say (t := 138) (v' := tmV (some (trP P r))) rfl (by (rw [hgr]; rfl)) ?_
                    refine WH.on rfl rfl ?_
                    refine WH.y (Yl.neqG rfl rfl (fun w => neM_op hxok hro w)) rfl ?_ -- t139
                    refine WH.know (t := 139) (b' := false) rfl (by
                      rcases hxx with e | e
                      · rw [e] at g130; simp at g130
                      · rw [e]; simp) ?_
                    refine WH.on rfl rfl ?_
                    refine WH.y (Yl.pickT rfl rfl) rfl ?_ -- t140
                    refine WH.y (Yl.pickF rfl rfl) rfl ?_ -- t141
                    refine WH.nil ?_
                    refine WC.condF rfl (by first | rfl | (simp; done) | (simp; omega)) ?_
                    refine WC.skip ?_
                    refine WC.region ?_
                    refine WL.y (Yl.load on3 rfl (by repeat (first | exact Take1.head | apply Take1.tail)) (by rfl)) rfl ?_ -- t142
                    refine WL.y (Yl.add rfl rfl (IntWalk.i64_in _ (by omega))) rfl ?_ -- t143
                    refine WL.sto (Sto.one sz3 rfl rfl (by repeat (first | exact Take1.head | apply Take1.tail)) rfl (by rfl) (by rfl)) (fun _ h => nomatch h) ?_ -- st 14
                    refine WL.nil ?_
                    repeat (first | (with_reducible refine peelT ?_) | (with_reducible refine peelB ?_) | (with_reducible refine peelTX ?_) | (with_reducible refine peelBX ?_) | (with_reducible refine peelBN ?_) | (with_reducible refine peelBO rfl ?_))
                    exact ⟨[blkR b16 3 [.int .i64 ((k : Int) + 1)], blkR b13 38 z.cells, blkR b2 4 [.bool false], bunR (pnL ps), blkR b6 32 [.map (some b30)], mapR (Value.int .i64) tmV b30 mp], _, (by repeat (first | exact TakeL.nil | (apply TakeL.cons; · repeat (first | exact Take1.head | apply Take1.tail)))), (), trivial, rfl⟩
                  · refine WH.off rfl rfl rfl rfl ?_ -- t131
                    refine WH.off rfl rfl rfl rfl ?_ -- t132
                    refine WH.off rfl rfl rfl rfl ?_ -- t133
                    refine WH.off rfl rfl rfl rfl ?_ -- t134
                    refine WH.off rfl rfl rfl rfl ?_ -- t135
                    refine WH.off rfl rfl rfl rfl ?_ -- t136
                    refine WH.off rfl rfl rfl rfl ?_ -- t137
                    refine WH.off rfl rfl rfl rfl ?_ -- t138
                    refine WH.off rfl rfl rfl rfl ?_ -- t139
                    refine WH.on rfl rfl ?_
                    refine WH.y (Yl.pickF rfl rfl) rfl ?_ -- t140
                    refine WH.y (Yl.pickF rfl rfl) rfl ?_ -- t141
                    refine WH.nil ?_
                    refine WC.condF rfl (by first | rfl | (simp; done) | (simp; omega)) ?_
                    refine WC.skip ?_
                    refine WC.region ?_
                    refine WL.y (Yl.load on3 rfl (by repeat (first | exact Take1.head | apply Take1.tail)) (by rfl)) rfl ?_ -- t142
                    refine WL.y (Yl.add rfl rfl (IntWalk.i64_in _ (by omega))) rfl ?_ -- t143
                    refine WL.sto (Sto.one sz3 rfl rfl (by repeat (first | exact Take1.head | apply Take1.tail)) rfl (by rfl) (by rfl)) (fun _ h => nomatch h) ?_ -- st 14
                    refine WL.nil ?_
                    repeat (first | (with_reducible refine peelT ?_) | (with_reducible refine peelB ?_) | (with_reducible refine peelTX ?_) | (with_reducible refine peelBX ?_) | (with_reducible refine peelBN ?_) | (with_reducible refine peelBO rfl ?_))
                    exact ⟨[blkR b16 3 [.int .i64 ((k : Int) + 1)], blkR b13 38 z.cells, blkR b2 4 [.bool false], bunR (pnL ps), blkR b6 32 [.map (some b30)], mapR (Value.int .i64) tmV b30 mp], _, (by repeat (first | exact TakeL.nil | (apply TakeL.cons; · repeat (first | exact Take1.head | apply Take1.tail)))), (), trivial, rfl⟩
                · refine WC.skip ?_
                  refine WC.seq ?_
                  refine WC.seq ?_
                  refine WC.drawRead mixed (by kernel_rfl) ?_
                  refine WH.y (Yl.load on3 rfl (by repeat (first | exact Take1.head | apply Take1.tail)) (by rfl)) rfl ?_ -- t115
                  refine WH.y (Yl.field fo38_2 rfl) rfl ?_ -- t116
                  refine WH.y (Yl.load on29 rfl (by repeat (first | exact Take1.head | apply Take1.tail)) (by rfl)) rfl ?_ -- t117
                  refine WH.y (Yl.len un29 rfl) rfl ?_ -- t118
                  refine WH.y (Yl.geq rfl rfl) rfl ?_ -- t119
                  refine WH.know (t := 119) (b' := false) rfl (by simp; omega) ?_
                  refine WH.y (Yl.move rfl) rfl ?_ -- t120
                  refine WH.on rfl rfl ?_
                  refine WH.y (Yl.loadN ag34 rfl (by repeat (first | exact Take1.head | apply Take1.tail)) (by rfl) (show _ = tmC (some x) from rfl)) rfl ?_ -- t121
                  refine WH.on rfl rfl ?_
                  refine WH.y (Yl.load on32 rfl (by repeat (first | exact Take1.head | apply Take1.tail)) (by rfl)) rfl ?_ -- t122
                  refine WH.on rfl rfl ?_
                  refine WH.y (Yl.field fo38_2 rfl) rfl ?_ -- t123
                  refine WH.on rfl rfl ?_
                  refine WH.y (Yl.load on29 rfl (by repeat (first | exact Take1.head | apply Take1.tail)) (by rfl)) rfl ?_ -- t124
                  refine WH.on rfl rfl ?_
                  refine WH.y (Yl.load on3 rfl (by repeat (first | exact Take1.head | apply Take1.tail)) (by rfl)) rfl ?_ -- t125
                  refine WH.on rfl rfl ?_
                  refine WH.y (Yl.index un29 sz3 rfl rfl (Reads.of (RdOf.bun (A := pnL ps) (List.mem_map.2 ⟨z, hzm, rfl⟩)) (by repeat (first | exact Take1.head | apply Take1.tail))) rfl (by omega)) rfl ?_ -- t126
                  refine WH.on rfl rfl ?_
                  refine WH.y (Yl.loadE (j := k) on3 rfl (Reads.of (RdOf.bun (A := pnL ps) (List.mem_map.2 ⟨z, hzm, rfl⟩)) (by repeat (first | exact Take1.head | apply Take1.tail))) (iN_cell hj)) rfl ?_
                  refine WH.on rfl rfl ?_
                  refine WH.y (Yl.lookup (kv := Value.int .i64) keyI un32 (fun _ => by kernel_rfl) (z := .agg #[.string ByteArray.empty]) hwfm rfl rfl hwj (MReads.of (m := mp) MapOf.own (by repeat (first | exact Take1.head | apply Take1.tail)))) rfl ?_ -- t128
                  refine WH.say (t := 128) (v' := tmV (some (trP P j))) rfl (by (rw [hgj]; rfl)) ?_
                  refine WH.on rfl rfl ?_
                  refine WH.y (Yl.neqG rfl rfl (fun w => neM_op hxok hjo w)) rfl ?_ -- t129
                  refine WH.know (t := 129) (b' := false) rfl (by
                    obtain ⟨j', hj', e⟩ := hpt1 g112 k x hx0
                    rw [hj] at hj'; cases hj'
                    rw [e]; simp) ?_
                  refine WH.on rfl rfl ?_
                  refine WH.y (Yl.move rfl) rfl ?_ -- t130
                  refine WH.off rfl rfl rfl rfl ?_ -- t131
                  refine WH.off rfl rfl rfl rfl ?_ -- t132
                  refine WH.off rfl rfl rfl rfl ?_ -- t133
                  refine WH.off rfl rfl rfl rfl ?_ -- t134
                  refine WH.off rfl rfl rfl rfl ?_ -- t135
                  refine WH.off rfl rfl rfl rfl ?_ -- t136
                  refine WH.off rfl rfl rfl rfl ?_ -- t137
                  refine WH.off rfl rfl rfl rfl ?_ -- t138
                  refine WH.off rfl rfl rfl rfl ?_ -- t139
                  refine WH.on rfl rfl ?_
                  refine WH.y (Yl.pickF rfl rfl) rfl ?_ -- t140
                  refine WH.y (Yl.pickF rfl rfl) rfl ?_ -- t141
                  refine WH.nil ?_
                  refine WC.condF rfl (by first | rfl | (simp; done) | (simp; omega)) ?_
                  refine WC.skip ?_
                  refine WC.region ?_
                  refine WL.y (Yl.load on3 rfl (by repeat (first | exact Take1.head | apply Take1.tail)) (by rfl)) rfl ?_ -- t142
                  refine WL.y (Yl.add rfl rfl (IntWalk.i64_in _ (by omega))) rfl ?_ -- t143
                  refine WL.sto (Sto.one sz3 rfl rfl (by repeat (first | exact Take1.head | apply Take1.tail)) rfl (by rfl) (by rfl)) (fun _ h => nomatch h) ?_ -- st 14
                  refine WL.nil ?_
                  repeat (first | (with_reducible refine peelT ?_) | (with_reducible refine peelB ?_) | (with_reducible refine peelTX ?_) | (with_reducible refine peelBX ?_) | (with_reducible refine peelBN ?_) | (with_reducible refine peelBO rfl ?_))
                  exact ⟨[blkR b16 3 [.int .i64 ((k : Int) + 1)], blkR b13 38 z.cells, blkR b2 4 [.bool false], bunR (pnL ps), blkR b6 32 [.map (some b30)], mapR (Value.int .i64) tmV b30 mp], _, (by repeat (first | exact TakeL.nil | (apply TakeL.cons; · repeat (first | exact Take1.head | apply Take1.tail)))), (), trivial, rfl⟩
              · rintro ⟨⟩ D -
                rw [yrM_len, hpt0]
                dsimp only [List.cons_append, List.nil_append]
                refine WC.seq ?_
                refine WC.view (fun w h => h.markAdd (D := D) (Dl := Dl) (by repeat (first | exact Take1.head | apply Take1.tail)) (by repeat (first | exact Take1.head | apply Take1.tail))) ?_
                refine WC.drawAny (Hs := [blkR b13 38 z.cells, blkR b14 34 (tmC (some (trP P p))), blkR b16 3 [.int .i64 (z.nd.pt.length : Int)]]) mixed (by kernel_rfl) ⟨_, (by repeat (first | exact TakeL.nil | (apply TakeL.cons; · repeat (first | exact Take1.head | apply Take1.tail))))⟩ ?_
                refine WD.take 0 rfl (by kernel_rfl) (by kernel_rfl) (by kernel_rfl) rfl rfl (Yl.load on3 rfl (by repeat (first | exact Take1.head | apply Take1.tail)) (by rfl)) rfl ?_ -- t144
                refine WD.take 1 rfl (by kernel_rfl) (by kernel_rfl) (by kernel_rfl) rfl rfl (Yl.field fo38_2 rfl) rfl ?_ -- t145
                refine WD.take 2 rfl (by kernel_rfl) (by kernel_rfl) (by kernel_rfl) rfl rfl (Yl.load on29 rfl (by repeat (first | exact Take1.head | apply Take1.tail)) (by rfl)) rfl ?_ -- t146
                refine WD.take 3 rfl (by kernel_rfl) (by kernel_rfl) (by kernel_rfl) rfl rfl (Yl.len un29 rfl) rfl ?_ -- t147
                refine WD.take 4 rfl (by kernel_rfl) (by kernel_rfl) (by kernel_rfl) rfl rfl (Yl.neq rfl rfl) rfl ?_ -- t148
                refine WD.know (t := 148) (b' := false) rfl (by simp) ?_
                refine WD.take 5 rfl (by kernel_rfl) (by kernel_rfl) (by kernel_rfl) rfl rfl (Yl.move rfl) rfl ?_ -- t149
                refine WD.takeOn 6 rfl (by kernel_rfl) (by kernel_rfl) (by kernel_rfl) rfl rfl rfl rfl (Yl.loadN ag34 rfl (by repeat (first | exact Take1.head | apply Take1.tail)) (by rfl) (show _ = tmC (some (trP P p)) from rfl)) rfl ?_ -- t150
                refine WD.takeOn 8 rfl (by kernel_rfl) (by kernel_rfl) (by kernel_rfl) rfl rfl rfl rfl (Yl.field fo38_0 rfl) rfl ?_ -- t152
                refine WD.takeOn 9 rfl (by kernel_rfl) (by kernel_rfl) (by kernel_rfl) rfl rfl rfl rfl (Yl.load on5 rfl (by repeat (first | exact Take1.head | apply Take1.tail)) (by rfl)) rfl ?_ -- t153
                refine WD.one 7 (by kernel_rfl) ?_
                refine WO.callC (xs := [.tmp 150]) (cap := []) rfl (.on rfl rfl) rfl rfl en11 (by repeat (first | exact TakeL.nil | (apply TakeL.cons; · repeat (first | exact Take1.head | apply Take1.tail)))) (fun w hw => kind_any (some (trP P p)) hoo w hw.left.here) rfl (fun _ => ⟨_, (by repeat (first | exact TakeL.nil | (apply TakeL.cons; · repeat (first | exact Take1.head | apply Take1.tail))))⟩) ?_ -- t151 (hailer/term.Term).Kind
                rintro ⟨⟩ -
                rw [hkd]
                refine WD.takeOn 10 rfl (by kernel_rfl) (by kernel_rfl) (by kernel_rfl) rfl rfl rfl rfl (Yl.neq rfl rfl) rfl ?_ -- t154
                refine WD.know (t := 154) (b' := false) rfl (by simp) ?_
                refine WD.take 11 rfl (by kernel_rfl) (by kernel_rfl) (by kernel_rfl) rfl rfl (Yl.pickF rfl rfl) rfl ?_ -- t155
                refine WD.take 12 rfl (by kernel_rfl) (by kernel_rfl) (by kernel_rfl) rfl rfl (Yl.move rfl) rfl ?_ -- t156
                refine WD.takeOn 13 rfl (by kernel_rfl) (by kernel_rfl) (by kernel_rfl) rfl rfl rfl rfl (Yl.field fo38_0 rfl) rfl ?_ -- t157
                refine WD.takeOn 14 rfl (by kernel_rfl) (by kernel_rfl) (by kernel_rfl) rfl rfl rfl rfl (Yl.load on5 rfl (by repeat (first | exact Take1.head | apply Take1.tail)) (by rfl)) rfl ?_ -- t158
                refine WD.takeOn 15 rfl (by kernel_rfl) (by kernel_rfl) (by kernel_rfl) rfl rfl rfl rfl (Yl.eql rfl rfl) rfl ?_ -- t159
                refine WD.takeOn 16 rfl (by kernel_rfl) (by kernel_rfl) (by kernel_rfl) rfl rfl rfl rfl (Yl.move rfl) rfl ?_ -- t160
                refine WD.both (t := 160) rfl (fun g160 => ?_) (fun g160 => ?_)
                · refine WD.takeOff 17 rfl (by kernel_rfl) (by kernel_rfl) (by kernel_rfl) rfl rfl rfl rfl rfl rfl ?_ -- t161
                  refine WD.takeOff 18 rfl (by kernel_rfl) (by kernel_rfl) (by kernel_rfl) rfl rfl rfl rfl rfl rfl ?_ -- t162
                  refine WD.takeOff 19 rfl (by kernel_rfl) (by kernel_rfl) (by kernel_rfl) rfl rfl rfl rfl rfl rfl ?_ -- t163
                  refine WD.takeOn 20 rfl (by kernel_rfl) (by kernel_rfl) (by kernel_rfl) rfl rfl rfl rfl (Yl.pickT rfl rfl) rfl ?_ -- t164
                  refine WD.takeOn 21 rfl (by kernel_rfl) (by kernel_rfl) (by kernel_rfl) rfl rfl rfl rfl (Yl.move rfl) rfl ?_ -- t165
                  refine WD.takeOn 22 rfl (by kernel_rfl) (by kernel_rfl) (by kernel_rfl) rfl rfl rfl rfl (Yl.loadN ag34 rfl (by repeat (first | exact Take1.head | apply Take1.tail)) (by rfl) (show _ = tmC (some (trP P p)) from rfl)) rfl ?_ -- t166
                  refine WD.takeOn 24 rfl (by kernel_rfl) (by kernel_rfl) (by kernel_rfl) rfl rfl rfl rfl (Yl.field fo38_1 rfl) rfl ?_ -- t168
                  refine WD.takeOn 25 rfl (by kernel_rfl) (by kernel_rfl) (by kernel_rfl) rfl rfl rfl rfl (Yl.load on36 rfl (by repeat (first | exact Take1.head | apply Take1.tail)) (by rfl)) rfl ?_ -- t169
                  refine WD.one 23 (by kernel_rfl) ?_
                  refine WO.callC (xs := [.tmp 166]) (cap := []) rfl (.on rfl rfl) rfl rfl en12 (by repeat (first | exact TakeL.nil | (apply TakeL.cons; · repeat (first | exact Take1.head | apply Take1.tail)))) (fun w hw => number_any (some (trP P p)) hoo w hw.left.here) rfl (fun _ => ⟨_, (by repeat (first | exact TakeL.nil | (apply TakeL.cons; · repeat (first | exact Take1.head | apply Take1.tail))))⟩) ?_ -- t167 (hailer/term.Term).Number
                  rintro ⟨⟩ -
                  rw [hnu]
                  refine WD.takeOn 26 rfl (by kernel_rfl) (by kernel_rfl) (by kernel_rfl) rfl rfl rfl rfl (Yl.neq rfl rfl) rfl ?_ -- t170
                  refine WD.know (t := 170) (b' := false) rfl (by simp) ?_
                  refine WD.takeOn 27 rfl (by kernel_rfl) (by kernel_rfl) (by kernel_rfl) rfl rfl rfl rfl (Yl.pickT rfl rfl) rfl ?_ -- t171
                  refine WD.take 28 rfl (by kernel_rfl) (by kernel_rfl) (by kernel_rfl) rfl rfl (Yl.pickF rfl rfl) rfl ?_ -- t172
                  refine WD.take 29 rfl (by kernel_rfl) (by kernel_rfl) (by kernel_rfl) rfl rfl (Yl.move rfl) rfl ?_ -- t173
                  refine WD.takeOn 30 rfl (by kernel_rfl) (by kernel_rfl) (by kernel_rfl) rfl rfl rfl rfl (Yl.field fo38_0 rfl) rfl ?_ -- t174
                  refine WD.takeOn 31 rfl (by kernel_rfl) (by kernel_rfl) (by kernel_rfl) rfl rfl rfl rfl (Yl.load on5 rfl (by repeat (first | exact Take1.head | apply Take1.tail)) (by rfl)) rfl ?_ -- t175
                  refine WD.takeOn 32 rfl (by kernel_rfl) (by kernel_rfl) (by kernel_rfl) rfl rfl rfl rfl (Yl.neq rfl rfl) rfl ?_ -- t176
                  refine WD.takeOn 33 rfl (by kernel_rfl) (by kernel_rfl) (by kernel_rfl) rfl rfl rfl rfl (Yl.move rfl) rfl ?_ -- t177
                  refine WD.both (t := 177) rfl (fun g177 => ?_) (fun g177 => ?_)
                  · refine WD.takeOn 34 rfl (by kernel_rfl) (by kernel_rfl) (by kernel_rfl) rfl rfl rfl rfl (Yl.field fo38_0 rfl) rfl ?_ -- t178
                    refine WD.takeOn 35 rfl (by kernel_rfl) (by kernel_rfl) (by kernel_rfl) rfl rfl rfl rfl (Yl.load on5 rfl (by repeat (first | exact Take1.head | apply Take1.tail)) (by rfl)) rfl ?_ -- t179
                    refine WD.takeOn 36 rfl (by kernel_rfl) (by kernel_rfl) (by kernel_rfl) rfl rfl rfl rfl (Yl.neq rfl rfl) rfl ?_ -- t180
                    refine WD.takeOn 37 rfl (by kernel_rfl) (by kernel_rfl) (by kernel_rfl) rfl rfl rfl rfl (Yl.pickT rfl rfl) rfl ?_ -- t181
                    refine WD.takeOn 38 rfl (by kernel_rfl) (by kernel_rfl) (by kernel_rfl) rfl rfl rfl rfl (Yl.move rfl) rfl ?_ -- t182
                    refine WD.both (t := 182) rfl (fun g182 => ?_) (fun g182 => ?_)
                    · refine WD.takeOn 39 rfl (by kernel_rfl) (by kernel_rfl) (by kernel_rfl) rfl rfl rfl rfl (Yl.loadN ag34 rfl (by repeat (first | exact Take1.head | apply Take1.tail)) (by rfl) (show _ = tmC (some (trP P p)) from rfl)) rfl ?_ -- t183
                      refine WD.one 40 (by kernel_rfl) ?_
                      refine WO.callC (xs := [.tmp 183]) (cap := []) rfl (.on rfl rfl) rfl rfl en12 (by repeat (first | exact TakeL.nil | (apply TakeL.cons; · repeat (first | exact Take1.head | apply Take1.tail)))) (fun w hw => number_any (some (trP P p)) hoo w hw.left.here) rfl (fun _ => ⟨_, (by repeat (first | exact TakeL.nil | (apply TakeL.cons; · repeat (first | exact Take1.head | apply Take1.tail))))⟩) ?_ -- t184 (hailer/term.Term).Number
                      rintro ⟨⟩ -
                      rw [hnu]
                      refine WD.takeOn 41 rfl (by kernel_rfl) (by kernel_rfl) (by kernel_rfl) rfl rfl rfl rfl (Yl.neq rfl rfl) rfl ?_ -- t185
                      refine WD.know (t := 185) (b' := false) rfl (by
                        have h1 : z.nd.k ≠ 1 := by simpa using g177
                        have h3 : z.nd.k ≠ 3 := by simpa using g182
                        have hs := hzn.s
                        unfold Nd.shp at hs
                        have : z.nd.n = 0 := by omega
                        rw [this]; rfl) ?_
                      refine WD.takeOn 42 rfl (by kernel_rfl) (by kernel_rfl) (by kernel_rfl) rfl rfl rfl rfl (Yl.pickT rfl rfl) rfl ?_ -- t186
                      refine WD.take 43 rfl (by kernel_rfl) (by kernel_rfl) (by kernel_rfl) rfl rfl (Yl.pickF rfl rfl) rfl ?_ -- t187
                      refine WD.done (by kernel_rfl) ?_
                      refine WC.condF rfl (by first | rfl | (simp; done) | (simp; omega)) ?_
                      refine WC.skip ?_
                      refine WC.region ?_
                      refine WL.y (Yl.add rfl rfl (IntWalk.i64_in _ (by omega))) rfl ?_ -- t188
                      refine WL.y (Yl.move rfl) rfl ?_ -- t73
                      refine WL.nil ?_
                      exact ⟨(i + 1, D :: Dl), rfl, by dsimp only; omega, by dsimp only; omega, (by repeat (first | exact Sub.nil | refine Sub.cons rfl ?_)), _, (by repeat (first | exact TakeL.nil | (apply TakeL.cons; · repeat (first | exact Take1.head | apply Take1.tail))))⟩
                    · refine WD.takeOff 39 rfl (by kernel_rfl) (by kernel_rfl) (by kernel_rfl) rfl rfl rfl rfl rfl rfl ?_ -- t183
                      refine WD.one 40 (by kernel_rfl) ?_
                      refine WO.off rfl rfl rfl rfl rfl rfl rfl ?_ -- t184
                      refine WD.takeOff 41 rfl (by kernel_rfl) (by kernel_rfl) (by kernel_rfl) rfl rfl rfl rfl rfl rfl ?_ -- t185
                      refine WD.takeOn 42 rfl (by kernel_rfl) (by kernel_rfl) (by kernel_rfl) rfl rfl rfl rfl (Yl.pickF rfl rfl) rfl ?_ -- t186
                      refine WD.take 43 rfl (by kernel_rfl) (by kernel_rfl) (by kernel_rfl) rfl rfl (Yl.pickF rfl rfl) rfl ?_ -- t187
                      refine WD.done (by kernel_rfl) ?_
                      refine WC.condF rfl (by first | rfl | (simp; done) | (simp; omega)) ?_
                      refine WC.skip ?_
                      refine WC.region ?_
                      refine WL.y (Yl.add rfl rfl (IntWalk.i64_in _ (by omega))) rfl ?_ -- t188
                      refine WL.y (Yl.move rfl) rfl ?_ -- t73
                      refine WL.nil ?_
                      exact ⟨(i + 1, D :: Dl), rfl, by dsimp only; omega, by dsimp only; omega, (by repeat (first | exact Sub.nil | refine Sub.cons rfl ?_)), _, (by repeat (first | exact TakeL.nil | (apply TakeL.cons; · repeat (first | exact Take1.head | apply Take1.tail))))⟩
                  · refine WD.takeOff 34 rfl (by kernel_rfl) (by kernel_rfl) (by kernel_rfl) rfl rfl rfl rfl rfl rfl ?_ -- t178
                    refine WD.takeOff 35 rfl (by kernel_rfl) (by kernel_rfl) (by kernel_rfl) rfl rfl rfl rfl rfl rfl ?_ -- t179
                    refine WD.takeOff 36 rfl (by kernel_rfl) (by kernel_rfl) (by kernel_rfl) rfl rfl rfl rfl rfl rfl ?_ -- t180
                    refine WD.takeOn 37 rfl (by kernel_rfl) (by kernel_rfl) (by kernel_rfl) rfl rfl rfl rfl (Yl.pickF rfl rfl) rfl ?_ -- t181
                    refine WD.takeOn 38 rfl (by kernel_rfl) (by kernel_rfl) (by kernel_rfl) rfl rfl rfl rfl (Yl.move rfl) rfl ?_ -- t182
                    refine WD.takeOff 39 rfl (by kernel_rfl) (by kernel_rfl) (by kernel_rfl) rfl rfl rfl rfl rfl rfl ?_ -- t183
                    refine WD.one 40 (by kernel_rfl) ?_
                    refine WO.off rfl rfl rfl rfl rfl rfl rfl ?_ -- t184
                    refine WD.takeOff 41 rfl (by kernel_rfl) (by kernel_rfl) (by kernel_rfl) rfl rfl rfl rfl rfl rfl ?_ -- t185
                    refine WD.takeOn 42 rfl (by kernel_rfl) (by kernel_rfl) (by kernel_rfl) rfl rfl rfl rfl (Yl.pickF rfl rfl) rfl ?_ -- t186
                    refine WD.take 43 rfl (by kernel_rfl) (by kernel_rfl) (by kernel_rfl) rfl rfl (Yl.pickF rfl rfl) rfl ?_ -- t187
                    refine WD.done (by kernel_rfl) ?_
                    refine WC.condF rfl (by first | rfl | (simp; done) | (simp; omega)) ?_
                    refine WC.skip ?_
                    refine WC.region ?_
                    refine WL.y (Yl.add rfl rfl (IntWalk.i64_in _ (by omega))) rfl ?_ -- t188
                    refine WL.y (Yl.move rfl) rfl ?_ -- t73
                    refine WL.nil ?_
                    exact ⟨(i + 1, D :: Dl), rfl, by dsimp only; omega, by dsimp only; omega, (by repeat (first | exact Sub.nil | refine Sub.cons rfl ?_)), _, (by repeat (first | exact TakeL.nil | (apply TakeL.cons; · repeat (first | exact Take1.head | apply Take1.tail))))⟩
                · refine WD.takeOn 17 rfl (by kernel_rfl) (by kernel_rfl) (by kernel_rfl) rfl rfl rfl rfl (Yl.field fo38_0 rfl) rfl ?_ -- t161
                  refine WD.takeOn 18 rfl (by kernel_rfl) (by kernel_rfl) (by kernel_rfl) rfl rfl rfl rfl (Yl.load on5 rfl (by repeat (first | exact Take1.head | apply Take1.tail)) (by rfl)) rfl ?_ -- t162
                  refine WD.takeOn 19 rfl (by kernel_rfl) (by kernel_rfl) (by kernel_rfl) rfl rfl rfl rfl (Yl.eql rfl rfl) rfl ?_ -- t163
                  refine WD.takeOn 20 rfl (by kernel_rfl) (by kernel_rfl) (by kernel_rfl) rfl rfl rfl rfl (Yl.pickF rfl rfl) rfl ?_ -- t164
                  refine WD.takeOn 21 rfl (by kernel_rfl) (by kernel_rfl) (by kernel_rfl) rfl rfl rfl rfl (Yl.move rfl) rfl ?_ -- t165
                  refine WD.both (t := 165) rfl (fun g165 => ?_) (fun g165 => ?_)
                  · refine WD.takeOn 22 rfl (by kernel_rfl) (by kernel_rfl) (by kernel_rfl) rfl rfl rfl rfl (Yl.loadN ag34 rfl (by repeat (first | exact Take1.head | apply Take1.tail)) (by rfl) (show _ = tmC (some (trP P p)) from rfl)) rfl ?_ -- t166
                    refine WD.takeOn 24 rfl (by kernel_rfl) (by kernel_rfl) (by kernel_rfl) rfl rfl rfl rfl (Yl.field fo38_1 rfl) rfl ?_ -- t168
                    refine WD.takeOn 25 rfl (by kernel_rfl) (by kernel_rfl) (by kernel_rfl) rfl rfl rfl rfl (Yl.load on36 rfl (by repeat (first | exact Take1.head | apply Take1.tail)) (by rfl)) rfl ?_ -- t169
                    refine WD.one 23 (by kernel_rfl) ?_
                    refine WO.callC (xs := [.tmp 166]) (cap := []) rfl (.on rfl rfl) rfl rfl en12 (by repeat (first | exact TakeL.nil | (apply TakeL.cons; · repeat (first | exact Take1.head | apply Take1.tail)))) (fun w hw => number_any (some (trP P p)) hoo w hw.left.here) rfl (fun _ => ⟨_, (by repeat (first | exact TakeL.nil | (apply TakeL.cons; · repeat (first | exact Take1.head | apply Take1.tail))))⟩) ?_ -- t167 (hailer/term.Term).Number
                    rintro ⟨⟩ -
                    rw [hnu]
                    refine WD.takeOn 26 rfl (by kernel_rfl) (by kernel_rfl) (by kernel_rfl) rfl rfl rfl rfl (Yl.neq rfl rfl) rfl ?_ -- t170
                    refine WD.know (t := 170) (b' := false) rfl (by simp) ?_
                    refine WD.takeOn 27 rfl (by kernel_rfl) (by kernel_rfl) (by kernel_rfl) rfl rfl rfl rfl (Yl.pickT rfl rfl) rfl ?_ -- t171
                    refine WD.take 28 rfl (by kernel_rfl) (by kernel_rfl) (by kernel_rfl) rfl rfl (Yl.pickF rfl rfl) rfl ?_ -- t172
                    refine WD.take 29 rfl (by kernel_rfl) (by kernel_rfl) (by kernel_rfl) rfl rfl (Yl.move rfl) rfl ?_ -- t173
                    refine WD.takeOn 30 rfl (by kernel_rfl) (by kernel_rfl) (by kernel_rfl) rfl rfl rfl rfl (Yl.field fo38_0 rfl) rfl ?_ -- t174
                    refine WD.takeOn 31 rfl (by kernel_rfl) (by kernel_rfl) (by kernel_rfl) rfl rfl rfl rfl (Yl.load on5 rfl (by repeat (first | exact Take1.head | apply Take1.tail)) (by rfl)) rfl ?_ -- t175
                    refine WD.takeOn 32 rfl (by kernel_rfl) (by kernel_rfl) (by kernel_rfl) rfl rfl rfl rfl (Yl.neq rfl rfl) rfl ?_ -- t176
                    refine WD.takeOn 33 rfl (by kernel_rfl) (by kernel_rfl) (by kernel_rfl) rfl rfl rfl rfl (Yl.move rfl) rfl ?_ -- t177
                    refine WD.both (t := 177) rfl (fun g177 => ?_) (fun g177 => ?_)
                    · refine WD.takeOn 34 rfl (by kernel_rfl) (by kernel_rfl) (by kernel_rfl) rfl rfl rfl rfl (Yl.field fo38_0 rfl) rfl ?_ -- t178
                      refine WD.takeOn 35 rfl (by kernel_rfl) (by kernel_rfl) (by kernel_rfl) rfl rfl rfl rfl (Yl.load on5 rfl (by repeat (first | exact Take1.head | apply Take1.tail)) (by rfl)) rfl ?_ -- t179
                      refine WD.takeOn 36 rfl (by kernel_rfl) (by kernel_rfl) (by kernel_rfl) rfl rfl rfl rfl (Yl.neq rfl rfl) rfl ?_ -- t180
                      refine WD.takeOn 37 rfl (by kernel_rfl) (by kernel_rfl) (by kernel_rfl) rfl rfl rfl rfl (Yl.pickT rfl rfl) rfl ?_ -- t181
                      refine WD.takeOn 38 rfl (by kernel_rfl) (by kernel_rfl) (by kernel_rfl) rfl rfl rfl rfl (Yl.move rfl) rfl ?_ -- t182
                      refine WD.both (t := 182) rfl (fun g182 => ?_) (fun g182 => ?_)
                      · refine WD.takeOn 39 rfl (by kernel_rfl) (by kernel_rfl) (by kernel_rfl) rfl rfl rfl rfl (Yl.loadN ag34 rfl (by repeat (first | exact Take1.head | apply Take1.tail)) (by rfl) (show _ = tmC (some (trP P p)) from rfl)) rfl ?_ -- t183
                        refine WD.one 40 (by kernel_rfl) ?_
                        refine WO.callC (xs := [.tmp 183]) (cap := []) rfl (.on rfl rfl) rfl rfl en12 (by repeat (first | exact TakeL.nil | (apply TakeL.cons; · repeat (first | exact Take1.head | apply Take1.tail)))) (fun w hw => number_any (some (trP P p)) hoo w hw.left.here) rfl (fun _ => ⟨_, (by repeat (first | exact TakeL.nil | (apply TakeL.cons; · repeat (first | exact Take1.head | apply Take1.tail))))⟩) ?_ -- t184 (hailer/term.Term).Number
                        rintro ⟨⟩ -
                        rw [hnu]
                        refine WD.takeOn 41 rfl (by kernel_rfl) (by kernel_rfl) (by kernel_rfl) rfl rfl rfl rfl (Yl.neq rfl rfl) rfl ?_ -- t185
                        refine WD.know (t := 185) (b' := false) rfl (by
                          have h1 : z.nd.k ≠ 1 := by simpa using g177
                          have h3 : z.nd.k ≠ 3 := by simpa using g182
                          have hs := hzn.s
                          unfold Nd.shp at hs
                          have : z.nd.n = 0 := by omega
                          rw [this]; rfl) ?_
                        refine WD.takeOn 42 rfl (by kernel_rfl) (by kernel_rfl) (by kernel_rfl) rfl rfl rfl rfl (Yl.pickT rfl rfl) rfl ?_ -- t186
                        refine WD.take 43 rfl (by kernel_rfl) (by kernel_rfl) (by kernel_rfl) rfl rfl (Yl.pickF rfl rfl) rfl ?_ -- t187
                        refine WD.done (by kernel_rfl) ?_
                        refine WC.condF rfl (by first | rfl | (simp; done) | (simp; omega)) ?_
                        refine WC.skip ?_
                        refine WC.region ?_
                        refine WL.y (Yl.add rfl rfl (IntWalk.i64_in _ (by omega))) rfl ?_ -- t188
                        refine WL.y (Yl.move rfl) rfl ?_ -- t73
                        refine WL.nil ?_
                        exact ⟨(i + 1, D :: Dl), rfl, by dsimp only; omega, by dsimp only; omega, (by repeat (first | exact Sub.nil | refine Sub.cons rfl ?_)), _, (by repeat (first | exact TakeL.nil | (apply TakeL.cons; · repeat (first | exact Take1.head | apply Take1.tail))))⟩
                      · refine WD.takeOff 39 rfl (by kernel_rfl) (by kernel_rfl) (by kernel_rfl) rfl rfl rfl rfl rfl rfl ?_ -- t183
                        refine WD.one 40 (by kernel_rfl) ?_
                        refine WO.off rfl rfl rfl rfl rfl rfl rfl ?_ -- t184
                        refine WD.takeOff 41 rfl (by kernel_rfl) (by kernel_rfl) (by kernel_rfl) rfl rfl rfl rfl rfl rfl ?_ -- t185
                        refine WD.takeOn 42 rfl (by kernel_rfl) (by kernel_rfl) (by kernel_rfl) rfl rfl rfl rfl (Yl.pickF rfl rfl) rfl ?_ -- t186
                        refine WD.take 43 rfl (by kernel_rfl) (by kernel_rfl) (by kernel_rfl) rfl rfl (Yl.pickF rfl rfl) rfl ?_ -- t187
                        refine WD.done (by kernel_rfl) ?_
                        refine WC.condF rfl (by first | rfl | (simp; done) | (simp; omega)) ?_
                        refine WC.skip ?_
                        refine WC.region ?_
                        refine WL.y (Yl.add rfl rfl (IntWalk.i64_in _ (by omega))) rfl ?_ -- t188
                        refine WL.y (Yl.move rfl) rfl ?_ -- t73
                        refine WL.nil ?_
                        exact ⟨(i + 1, D :: Dl), rfl, by dsimp only; omega, by dsimp only; omega, (by repeat (first | exact Sub.nil | refine Sub.cons rfl ?_)), _, (by repeat (first | exact TakeL.nil | (apply TakeL.cons; · repeat (first | exact Take1.head | apply Take1.tail))))⟩
                    · refine WD.takeOff 34 rfl (by kernel_rfl) (by kernel_rfl) (by kernel_rfl) rfl rfl rfl rfl rfl rfl ?_ -- t178
                      refine WD.takeOff 35 rfl (by kernel_rfl) (by kernel_rfl) (by kernel_rfl) rfl rfl rfl rfl rfl rfl ?_ -- t179
                      refine WD.takeOff 36 rfl (by kernel_rfl) (by kernel_rfl) (by kernel_rfl) rfl rfl rfl rfl rfl rfl ?_ -- t180
                      refine WD.takeOn 37 rfl (by kernel_rfl) (by kernel_rfl) (by kernel_rfl) rfl rfl rfl rfl (Yl.pickF rfl rfl) rfl ?_ -- t181
                      refine WD.takeOn 38 rfl (by kernel_rfl) (by kernel_rfl) (by kernel_rfl) rfl rfl rfl rfl (Yl.move rfl) rfl ?_ -- t182
                      refine WD.takeOff 39 rfl (by kernel_rfl) (by kernel_rfl) (by kernel_rfl) rfl rfl rfl rfl rfl rfl ?_ -- t183
                      refine WD.one 40 (by kernel_rfl) ?_
                      refine WO.off rfl rfl rfl rfl rfl rfl rfl ?_ -- t184
                      refine WD.takeOff 41 rfl (by kernel_rfl) (by kernel_rfl) (by kernel_rfl) rfl rfl rfl rfl rfl rfl ?_ -- t185
                      refine WD.takeOn 42 rfl (by kernel_rfl) (by kernel_rfl) (by kernel_rfl) rfl rfl rfl rfl (Yl.pickF rfl rfl) rfl ?_ -- t186
                      refine WD.take 43 rfl (by kernel_rfl) (by kernel_rfl) (by kernel_rfl) rfl rfl (Yl.pickF rfl rfl) rfl ?_ -- t187
                      refine WD.done (by kernel_rfl) ?_
                      refine WC.condF rfl (by first | rfl | (simp; done) | (simp; omega)) ?_
                      refine WC.skip ?_
                      refine WC.region ?_
                      refine WL.y (Yl.add rfl rfl (IntWalk.i64_in _ (by omega))) rfl ?_ -- t188
                      refine WL.y (Yl.move rfl) rfl ?_ -- t73
                      refine WL.nil ?_
                      exact ⟨(i + 1, D :: Dl), rfl, by dsimp only; omega, by dsimp only; omega, (by repeat (first | exact Sub.nil | refine Sub.cons rfl ?_)), _, (by repeat (first | exact TakeL.nil | (apply TakeL.cons; · repeat (first | exact Take1.head | apply Take1.tail))))⟩
                  · refine WD.takeOff 22 rfl (by kernel_rfl) (by kernel_rfl) (by kernel_rfl) rfl rfl rfl rfl rfl rfl ?_ -- t166
                    refine WD.takeOff 24 rfl (by kernel_rfl) (by kernel_rfl) (by kernel_rfl) rfl rfl rfl rfl rfl rfl ?_ -- t168
                    refine WD.takeOff 25 rfl (by kernel_rfl) (by kernel_rfl) (by kernel_rfl) rfl rfl rfl rfl rfl rfl ?_ -- t169
                    refine WD.one 23 (by kernel_rfl) ?_
                    refine WO.off rfl rfl rfl rfl rfl rfl rfl ?_ -- t167
                    refine WD.takeOff 26 rfl (by kernel_rfl) (by kernel_rfl) (by kernel_rfl) rfl rfl rfl rfl rfl rfl ?_ -- t170
                    refine WD.takeOn 27 rfl (by kernel_rfl) (by kernel_rfl) (by kernel_rfl) rfl rfl rfl rfl (Yl.pickF rfl rfl) rfl ?_ -- t171
                    refine WD.take 28 rfl (by kernel_rfl) (by kernel_rfl) (by kernel_rfl) rfl rfl (Yl.pickF rfl rfl) rfl ?_ -- t172
                    refine WD.take 29 rfl (by kernel_rfl) (by kernel_rfl) (by kernel_rfl) rfl rfl (Yl.move rfl) rfl ?_ -- t173
                    refine WD.takeOn 30 rfl (by kernel_rfl) (by kernel_rfl) (by kernel_rfl) rfl rfl rfl rfl (Yl.field fo38_0 rfl) rfl ?_ -- t174
                    refine WD.takeOn 31 rfl (by kernel_rfl) (by kernel_rfl) (by kernel_rfl) rfl rfl rfl rfl (Yl.load on5 rfl (by repeat (first | exact Take1.head | apply Take1.tail)) (by rfl)) rfl ?_ -- t175
                    refine WD.takeOn 32 rfl (by kernel_rfl) (by kernel_rfl) (by kernel_rfl) rfl rfl rfl rfl (Yl.neq rfl rfl) rfl ?_ -- t176
                    refine WD.takeOn 33 rfl (by kernel_rfl) (by kernel_rfl) (by kernel_rfl) rfl rfl rfl rfl (Yl.move rfl) rfl ?_ -- t177
                    refine WD.both (t := 177) rfl (fun g177 => ?_) (fun g177 => ?_)
                    · refine WD.takeOn 34 rfl (by kernel_rfl) (by kernel_rfl) (by kernel_rfl) rfl rfl rfl rfl (Yl.field fo38_0 rfl) rfl ?_ -- t178
                      refine WD.takeOn 35 rfl (by kernel_rfl) (by kernel_rfl) (by kernel_rfl) rfl rfl rfl rfl (Yl.load on5 rfl (by repeat (first | exact Take1.head | apply Take1.tail)) (by rfl)) rfl ?_ -- t179
                      refine WD.takeOn 36 rfl (by kernel_rfl) (by kernel_rfl) (by kernel_rfl) rfl rfl rfl rfl (Yl.neq rfl rfl) rfl ?_ -- t180
                      refine WD.takeOn 37 rfl (by kernel_rfl) (by kernel_rfl) (by kernel_rfl) rfl rfl rfl rfl (Yl.pickT rfl rfl) rfl ?_ -- t181
                      refine WD.takeOn 38 rfl (by kernel_rfl) (by kernel_rfl) (by kernel_rfl) rfl rfl rfl rfl (Yl.move rfl) rfl ?_ -- t182
                      refine WD.both (t := 182) rfl (fun g182 => ?_) (fun g182 => ?_)
                      · refine WD.takeOn 39 rfl (by kernel_rfl) (by kernel_rfl) (by kernel_rfl) rfl rfl rfl rfl (Yl.loadN ag34 rfl (by repeat (first | exact Take1.head | apply Take1.tail)) (by rfl) (show _ = tmC (some (trP P p)) from rfl)) rfl ?_ -- t183
                        refine WD.one 40 (by kernel_rfl) ?_
                        refine WO.callC (xs := [.tmp 183]) (cap := []) rfl (.on rfl rfl) rfl rfl en12 (by repeat (first | exact TakeL.nil | (apply TakeL.cons; · repeat (first | exact Take1.head | apply Take1.tail)))) (fun w hw => number_any (some (trP P p)) hoo w hw.left.here) rfl (fun _ => ⟨_, (by repeat (first | exact TakeL.nil | (apply TakeL.cons; · repeat (first | exact Take1.head | apply Take1.tail))))⟩) ?_ -- t184 (hailer/term.Term).Number
                        rintro ⟨⟩ -
                        rw [hnu]
                        refine WD.takeOn 41 rfl (by kernel_rfl) (by kernel_rfl) (by kernel_rfl) rfl rfl rfl rfl (Yl.neq rfl rfl) rfl ?_ -- t185
                        refine WD.know (t := 185) (b' := false) rfl (by
                          have h1 : z.nd.k ≠ 1 := by simpa using g177
                          have h3 : z.nd.k ≠ 3 := by simpa using g182
                          have hs := hzn.s
                          unfold Nd.shp at hs
                          have : z.nd.n = 0 := by omega
                          rw [this]; rfl) ?_
                        refine WD.takeOn 42 rfl (by kernel_rfl) (by kernel_rfl) (by kernel_rfl) rfl rfl rfl rfl (Yl.pickT rfl rfl) rfl ?_ -- t186
                        refine WD.take 43 rfl (by kernel_rfl) (by kernel_rfl) (by kernel_rfl) rfl rfl (Yl.pickF rfl rfl) rfl ?_ -- t187
                        refine WD.done (by kernel_rfl) ?_
                        refine WC.condF rfl (by first | rfl | (simp; done) | (simp; omega)) ?_
                        refine WC.skip ?_
                        refine WC.region ?_
                        refine WL.y (Yl.add rfl rfl (IntWalk.i64_in _ (by omega))) rfl ?_ -- t188
                        refine WL.y (Yl.move rfl) rfl ?_ -- t73
                        refine WL.nil ?_
                        exact ⟨(i + 1, D :: Dl), rfl, by dsimp only; omega, by dsimp only; omega, (by repeat (first | exact Sub.nil | refine Sub.cons rfl ?_)), _, (by repeat (first | exact TakeL.nil | (apply TakeL.cons; · repeat (first | exact Take1.head | apply Take1.tail))))⟩
                      · refine WD.takeOff 39 rfl (by kernel_rfl) (by kernel_rfl) (by kernel_rfl) rfl rfl rfl rfl rfl rfl ?_ -- t183
                        refine WD.one 40 (by kernel_rfl) ?_
                        refine WO.off rfl rfl rfl rfl rfl rfl rfl ?_ -- t184
                        refine WD.takeOff 41 rfl (by kernel_rfl) (by kernel_rfl) (by kernel_rfl) rfl rfl rfl rfl rfl rfl ?_ -- t185
                        refine WD.takeOn 42 rfl (by kernel_rfl) (by kernel_rfl) (by kernel_rfl) rfl rfl rfl rfl (Yl.pickF rfl rfl) rfl ?_ -- t186
                        refine WD.take 43 rfl (by kernel_rfl) (by kernel_rfl) (by kernel_rfl) rfl rfl (Yl.pickF rfl rfl) rfl ?_ -- t187
                        refine WD.done (by kernel_rfl) ?_
                        refine WC.condF rfl (by first | rfl | (simp; done) | (simp; omega)) ?_
                        refine WC.skip ?_
                        refine WC.region ?_
                        refine WL.y (Yl.add rfl rfl (IntWalk.i64_in _ (by omega))) rfl ?_ -- t188
                        refine WL.y (Yl.move rfl) rfl ?_ -- t73
                        refine WL.nil ?_
                        exact ⟨(i + 1, D :: Dl), rfl, by dsimp only; omega, by dsimp only; omega, (by repeat (first | exact Sub.nil | refine Sub.cons rfl ?_)), _, (by repeat (first | exact TakeL.nil | (apply TakeL.cons; · repeat (first | exact Take1.head | apply Take1.tail))))⟩
                    · refine WD.takeOff 34 rfl (by kernel_rfl) (by kernel_rfl) (by kernel_rfl) rfl rfl rfl rfl rfl rfl ?_ -- t178
                      refine WD.takeOff 35 rfl (by kernel_rfl) (by kernel_rfl) (by kernel_rfl) rfl rfl rfl rfl rfl rfl ?_ -- t179
                      refine WD.takeOff 36 rfl (by kernel_rfl) (by kernel_rfl) (by kernel_rfl) rfl rfl rfl rfl rfl rfl ?_ -- t180
                      refine WD.takeOn 37 rfl (by kernel_rfl) (by kernel_rfl) (by kernel_rfl) rfl rfl rfl rfl (Yl.pickF rfl rfl) rfl ?_ -- t181
                      refine WD.takeOn 38 rfl (by kernel_rfl) (by kernel_rfl) (by kernel_rfl) rfl rfl rfl rfl (Yl.move rfl) rfl ?_ -- t182
                      refine WD.takeOff 39 rfl (by kernel_rfl) (by kernel_rfl) (by kernel_rfl) rfl rfl rfl rfl rfl rfl ?_ -- t183
                      refine WD.one 40 (by kernel_rfl) ?_
                      refine WO.off rfl rfl rfl rfl rfl rfl rfl ?_ -- t184
                      refine WD.takeOff 41 rfl (by kernel_rfl) (by kernel_rfl) (by kernel_rfl) rfl rfl rfl rfl rfl rfl ?_ -- t185
                      refine WD.takeOn 42 rfl (by kernel_rfl) (by kernel_rfl) (by kernel_rfl) rfl rfl rfl rfl (Yl.pickF rfl rfl) rfl ?_ -- t186
                      refine WD.take 43 rfl (by kernel_rfl) (by kernel_rfl) (by kernel_rfl) rfl rfl (Yl.pickF rfl rfl) rfl ?_ -- t187
                      refine WD.done (by kernel_rfl) ?_
                      refine WC.condF rfl (by first | rfl | (simp; done) | (simp; omega)) ?_
                      refine WC.skip ?_
                      refine WC.region ?_
                      refine WL.y (Yl.add rfl rfl (IntWalk.i64_in _ (by omega))) rfl ?_ -- t188
                      refine WL.y (Yl.move rfl) rfl ?_ -- t73
                      refine WL.nil ?_
                      exact ⟨(i + 1, D :: Dl), rfl, by dsimp only; omega, by dsimp only; omega, (by repeat (first | exact Sub.nil | refine Sub.cons rfl ?_)), _, (by repeat (first | exact TakeL.nil | (apply TakeL.cons; · repeat (first | exact Take1.head | apply Take1.tail))))⟩
      · refine WC.exit ?_
        refine WC.seq ?_
        refine WC.view (fun w h => h.markEnd (Dl := Dl) (by repeat (first | exact Take1.head | apply Take1.tail))) ?_
        dsimp only [List.cons_append, List.nil_append]
        refine WC.region ?_
        refine WL.sto (Sto.one sz4 rfl rfl (by repeat (first | exact Take1.head | apply Take1.tail)) rfl (by rfl) (by rfl)) (fun _ h => nomatch h) ?_ -- st 16
        refine WL.nil ?_
        refine WC.ret ?_
        repeat (first | (with_reducible refine peelT ?_) | (with_reducible refine peelB ?_) | (with_reducible refine peelTX ?_) | (with_reducible refine peelBX ?_) | (with_reducible refine peelBN ?_) | (with_reducible refine peelBO rfl ?_))
        refine retM.of (marks_end Dl [blkR b2 4 [.bool true], ownR (.slice ym.1 (tmO P m).length ym.2) 34 1 (tmO P m).length (vcs tmV (tmO P m)), ownR (.slice y.1 ps.length y.2) 38 3 ps.length (vcs pnV ps), bunR (pnL ps), ownR (.slice q.1 m.length q.2) 3 1 m.length (ints .i64 (mdI m)), blkR b6 32 [.map (some b30)], mapR (Value.int .i64) tmV b30 mp]) ?_
        exact retV1 (.inr rfl) Try.results3 on4 rfl (by repeat (first | exact Take1.head | apply Take1.tail)) fun w' h => ⟨(), trivial, rfl, h.sub (by repeat (first | exact TakeL.nil | (apply TakeL.cons; · repeat (first | exact Take1.head | apply Take1.tail))))⟩
end Go.Proofs.Ytifhkjcimhhaiaa
