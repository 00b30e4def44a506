/- TermCloses: the walk. -/
import Derived.Test.YtifhkjcimhhaiaaTerCp
namespace Go.Proofs.Ytifhkjcimhhaiaa
open Go Go.RowKit
theorem ksY_size {m : MpT} : ∀ x ∈ ksY m, x.size = 1 := by
  intro x hx
  obtain ⟨p, _, rfl⟩ := List.mem_map.1 hx
  rfl
theorem count_next {d : List Bool} {j : Nat} {b : Bool} (h : d[j]? = some b) : (d.take (j + 1)).count true = (d.take j).count true + (if b then 1 else 0) := by
  rw [← take_snoc _ _ _ h, List.count_append]
  cases b <;> rfl
set_option maxRecDepth 100000 in
set_option maxHeartbeats 1600000 in
theorem closes_any (l : List Dn) (v wv : Value) (c : List Bool) (hl : l.length ≤ 10000000) (hd : ∀ x ∈ l, x.d.ok) (hL : ∀ x ∈ l, x.d.l.length ≤ 100000000) (hcl0 : c.length ≤ 10000000) (w : World) (hx : DnS w (fpL []) v l) (hcr : RdS w (fpL []) wv 1 c.length (vcs Value.bool c)) (hw : OK w (fpL []) [] w) :
    Fn Try.prog 5 [v, wv] [] w (fun _ : Unit => True) (fun _ => .bool true) (fun _ => []) := by
  obtain ⟨al, cl, rfl, hcl, hml⟩ := hx.rows.rd.form
  obtain ⟨ac, cc, rfl, hcc, hmc⟩ := hcr.rd.form
  refine enterM Try.func5 rfl Try.ntmps5 rfl hw ?_
  refine WC.seq ?_
  refine WC.region ?_
  refine WL.to (To.alloc (cs := [.bool false]) zr4 rfl) rfl ?_ -- t4
  intro b4
  refine WL.nil ?_
  refine WC.seq ?_
  refine WC.seq ?_
  refine WC.region ?_
  refine WL.callC (xs := []) (cap := []) rfl rfl en6 (by repeat (first | exact TakeL.nil | (apply TakeL.cons; · repeat (first | exact Take1.head | apply Take1.tail)))) (fun w hw => known_any w hw.left.here) rfl ?_ -- t26 hailer/hailerlaw21.known
  rintro ⟨⟩ -
  refine WL.know (t := 26) (b' := true) rfl rfl ?_
  refine WL.y (Yl.not rfl) rfl ?_ -- t27
  refine WL.nil ?_
  refine WC.condF rfl (by first | rfl | (simp; done) | (simp; omega)) ?_
  refine WC.skip ?_
  refine WC.seq ?_
  refine WC.seq ?_
  refine WC.region ?_
  refine WL.y (Yl.move rfl) rfl ?_ -- t28
  refine WL.callC (xs := [.tmp 28]) (cap := []) rfl rfl en7 (by repeat (first | exact TakeL.nil | (apply TakeL.cons; · repeat (first | exact Take1.head | apply Take1.tail)))) (fun w hw => heavy_any l _ hl hd w (hw.srcTS (A := []) hx) hw.left.here) rfl ?_ -- t29 hailer/hailerlaw21.heavy
  rintro hv hvf
  refine WL.nil ?_
  refine WC.cond rfl (fun g29 => ?_) (fun g29 => ?_)
  · refine WC.seq ?_
    refine WC.region ?_
    refine WL.sto (Sto.one sz4 rfl rfl (by repeat (first | exact Take1.head | apply Take1.tail)) rfl (by rfl) (by rfl)) (fun _ h => nomatch h) ?_ -- st 2
    refine WL.nil ?_
    refine WC.ret ?_
    repeat (first | (with_reducible refine peelT ?_) | (with_reducible refine peelB ?_) | (with_reducible refine peelTX ?_) | (with_reducible refine peelBX ?_) | (with_reducible refine peelBN ?_) | (with_reducible refine peelBO rfl ?_))
    refine retM.of .nil ?_
    exact retV1 (.inr rfl) Try.results5 on4 rfl (by repeat (first | exact Take1.head | apply Take1.tail)) fun w' h => ⟨(), trivial, rfl, h.sub (by repeat (first | exact TakeL.nil | (apply TakeL.cons; · repeat (first | exact Take1.head | apply Take1.tail))))⟩
  · refine WC.skip ?_
    refine WC.seq ?_
    obtain ⟨hl100, hlight⟩ := hvf g29
    have hwk := wk_of hd hlight
    have hpe := playT_eq hd
    have hplen := playR_len (dts l)
    rw [dts_len] at hplen
    refine WC.region ?_
    refine WL.y (Yl.move rfl) rfl ?_ -- t30
    refine WL.callC (xs := [.tmp 30]) (cap := []) rfl rfl en8 (by repeat (first | exact TakeL.nil | (apply TakeL.cons; · repeat (first | exact Take1.head | apply Take1.tail)))) (fun w hw => lplay_any l _ hl100 hd hlight hL w (hw.srcTS (A := []) hx) hw.left.here) rfl ?_ -- t31 hailer/hailerlaw21.play
    rintro ym -
    dsimp only [List.cons_append, List.nil_append]
    refine WL.y (Yl.assign rfl) rfl ?_ -- t5
    refine WL.nil ?_
    refine WC.seq ?_
    refine WC.region ?_
    refine WL.y (Yl.move rfl) rfl ?_ -- t33
    refine WL.callC (xs := [.tmp 33]) (cap := []) rfl rfl en9 (by repeat (first | exact TakeL.nil | (apply TakeL.cons; · repeat (first | exact Take1.head | apply Take1.tail)))) (fun w hw => rplay_any l _ hl hd w (hw.srcTS (A := []) hx) hw.left.here) rfl ?_ -- t34 hailer/hailerref21.Play
    rintro ⟨ps, y, m, q⟩ ⟨hps, hm⟩
    dsimp only at hps hm
    rw [hpe]
    rw [← hm] at hwk hplen ⊢
    obtain ⟨P, hPe⟩ : ∃ P, (playR (dts l)).1 = P := ⟨_, rfl⟩
    rw [hPe] at hps hplen hwk ⊢
    have hnl : P.length = ps.length := by rw [← hps, nds_len]
    have hO := hwk.allO
    have htl : (tmO P m).length = m.length := List.length_map _
    have hml2 : m.length ≤ 100 := by omega
    dsimp only [pyR, List.cons_append, List.nil_append]
    refine WL.y (Yl.move rfl) rfl ?_ -- t32
    refine WL.y (Yl.extract rfl rfl) rfl ?_ -- t35
    refine WL.say (t := 35) (v' := .slice y.1 ps.length y.2) rfl (by rfl) ?_
    refine WL.y (Yl.extract rfl rfl) rfl ?_ -- t36
    refine WL.say (t := 36) (v' := .slice q.1 m.length q.2) rfl (by rfl) ?_
    refine WL.y (Yl.assign rfl) rfl ?_ -- t6
    refine WL.y (Yl.assign rfl) rfl ?_ -- t7
    refine WL.nil ?_
    refine WC.seq ?_
    refine WC.region ?_
    refine WL.y (Yl.move rfl) rfl ?_ -- t37
    refine WL.y (Yl.len un28 rfl) rfl ?_ -- t38
    refine WL.to (To.makeSlice un44 zb44_4 rfl rfl rfl (by omega) (by unfold maxLen; omega)) rfl ?_ -- t39
    intro b39
    rw [bools_repl]
    refine WL.view (fun w h => h.blkOwn (b := b39) (size := 1) (n := ps.length) (by repeat (first | exact Take1.head | apply Take1.tail)) (by unfold maxLen; omega) (by rw [vtB.size boAll]; simp)) ?_
    refine WL.y (Yl.assign rfl) rfl ?_ -- t8
    refine WL.nil ?_
    refine WC.seq ?_
    refine WC.region ?_
    refine WL.y (Yl.assign rfl) rfl ?_ -- t9
    refine WL.nil ?_
    refine WC.seq ?_
    refine WC.seq ?_
    refine WC.region ?_
    refine WL.y (Yl.move rfl) rfl ?_ -- t40
    refine WL.y (Yl.len un44 rfl) rfl ?_ -- t41
    refine WL.y (Yl.move rfl) rfl ?_ -- t42
    refine WL.nil ?_
    refine WC.block ?_
    refine WC.view (fun w h => (h.addNil 34 1)) ?_
    refine WC.loop (α := Nat × List (Option Tm) × (Option Addr × Nat) × List Bool) (fun s => [(4, .pointer (some ⟨b4, 0, none⟩)), (5, .slice ym.1 (tmO P m).length ym.2), (6, .slice y.1 ps.length y.2), (7, .slice q.1 m.length q.2), (8, .slice (some ⟨b39, 0, none⟩) ps.length ps.length), (9, .slice s.2.2.1.1 s.2.1.length s.2.2.1.2), (40, .slice ac c.length cc), (41, .int .i64 (c.length : Int)), (42, .int .i64 (s.1 : Int))]) (fun s => [blkR b4 4 [.bool false], ownR (.slice ym.1 (tmO P m).length ym.2) 34 1 (tmO P m).length (vcs tmV (tmO P m)), ownR (.slice y.1 ps.length y.2) 38 3 ps.length (vcs pnV ps), bunR (pnL ps), ownR (.slice q.1 m.length q.2) 3 1 m.length (ints .i64 (mdI m)), ownR (.slice (some ⟨b39, 0, none⟩) ps.length ps.length) 4 1 ps.length (vcs Value.bool s.2.2.2), ownR (.slice s.2.2.1.1 s.2.1.length s.2.2.1.2) 34 1 s.2.1.length (vcs tmV s.2.1)]) (fun s => s.1 ≤ c.length ∧ GI P m s.1 s.2.1 s.2.2.2) (fun s => c.length - s.1) (0, [], (none, 0), List.replicate ps.length false) ⟨Nat.zero_le _, by rw [← hnl]; exact GI.start P m⟩ ⟨(by repeat (first | exact Sub.nil | refine Sub.cons rfl ?_)), _, (by repeat (first | exact TakeL.nil | (apply TakeL.cons; · repeat (first | exact Take1.head | apply Take1.tail))))⟩ ?_
    rintro ⟨i, g, z, h⟩ ⟨hi, hG⟩
    dsimp only at hi hG ⊢
    have hhl := hG.len
    have hgl := hG.le
    refine WC.seq ?_
    refine WC.region ?_
    refine WL.y (Yl.lss rfl rfl) rfl ?_ -- t43
    refine WL.nil ?_
    refine WC.seq ?_
    refine WC.condD rfl (fun g43 => ?_) (fun g43 => ?_)
    · refine WC.skip ?_
      refine WC.seq ?_
      refine WC.block ?_
      refine WC.seq ?_
      have hil : i < c.length := by have := g43; omega
      obtain ⟨b, hb⟩ : ∃ o, c[i]? = some o := ⟨_, List.getElem?_eq_getElem hil⟩
      refine WC.region ?_
      refine WL.y (Yl.move rfl) rfl ?_ -- t44
      refine WL.y (Yl.index un44 sz4 rfl rfl (Reads.s hcr) rfl (by omega)) rfl ?_ -- t45
      refine WL.y (Yl.loadV vtB boAll rfl (Reads.s hcr) rfl hb) rfl ?_ -- t46
      refine WL.y (Yl.assign rfl) rfl ?_ -- t10
      refine WL.y (Yl.assign rfl) rfl ?_ -- t11
      refine WL.nil ?_
      refine WC.seq ?_
      refine WC.region ?_
      refine WL.y (Yl.move rfl) rfl ?_ -- t47
      refine WL.y (Yl.move rfl) rfl ?_ -- t48
      refine WL.both (t := 48) rfl (fun g48 => ?_) (fun g48 => ?_)
      · refine WL.on rfl rfl ?_
        refine WL.y (Yl.move rfl) rfl ?_ -- t49
        refine WL.on rfl rfl ?_
        refine WL.y (Yl.move rfl) rfl ?_ -- t50
        refine WL.on rfl rfl ?_
        refine WL.y (Yl.len un25 rfl) rfl ?_ -- t51
        refine WL.on rfl rfl ?_
        refine WL.y (Yl.lss rfl rfl) rfl ?_ -- t52
        refine WL.y (Yl.pickT rfl rfl) rfl ?_ -- t53
        refine WL.nil ?_
        refine WC.condD rfl (fun g53 => ?_) (fun g53 => ?_)
        · refine WC.seq ?_
          have him : i < m.length := by have := g53; omega
          obtain ⟨o, ho⟩ : ∃ o, m[i]? = some o := ⟨_, List.getElem?_eq_getElem him⟩
          have hT := tmO_get (P := P) ho
          have hom := List.mem_of_getElem? ho
          refine WC.region ?_
          refine WL.y (Yl.move rfl) rfl ?_ -- t54
          refine WL.y (Yl.move rfl) rfl ?_ -- t55
          refine WL.y (Yl.move rfl) rfl ?_ -- t56
          refine WL.y (Yl.index un25 sz34 rfl rfl (Reads.of (r := ownR (.slice ym.1 (tmO P m).length ym.2) 34 1 (tmO P m).length (vcs tmV (tmO P m))) RdOf.own (by repeat (first | exact Take1.head | apply Take1.tail))) rfl (by omega)) rfl ?_ -- t57
          refine WL.y (Yl.loadV vtM hO rfl (Reads.of (r := ownR (.slice ym.1 (tmO P m).length ym.2) 34 1 (tmO P m).length (vcs tmV (tmO P m))) RdOf.own (by repeat (first | exact Take1.head | apply Take1.tail))) rfl hT) rfl ?_ -- t58
          refine WL.to (To.buildSlice (vs := [tmV (tmO1 P o)]) un25 zs34 rfl rfl (by simp [Value.cells, tmV, tmC]) (by decide) (by decide)) rfl ?_ -- t59
          intro b59
          rw [show flat [tmV (tmO1 P o)] = vcs tmV [tmO1 P o] from rfl]
          refine WL.to (To.append sl25 rfl rfl (by repeat (first | exact Take1.head | apply Take1.tail)) (Reads.of (RdOf.blk (size := 1) (n := 1) (cs := vcs tmV [tmO1 P o]) (cs' := vcs tmV [tmO1 P o]) (Nat.le_refl _) (by unfold maxLen; omega) (by simp [vcs, tmV, tmC, flat, Value.cells]) rfl) (by repeat (first | exact Take1.head | apply Take1.tail))) (vtM.ones _) (show g.length + 1 = (g ++ [tmO1 P o]).length by simp) (show vcs tmV g ++ vcs tmV [tmO1 P o] = vcs tmV (g ++ [tmO1 P o]) by rw [vcs_app]) (by simp; unfold maxLen; omega) (by simp; omega)) rfl ?_ -- t60
          rintro ⟨⟨ao60, c60⟩, hc60⟩
          dsimp only at hc60 ⊢
          refine WL.y (Yl.assign rfl) rfl ?_ -- t9
          refine WL.nil ?_
          refine WC.seq ?_
          refine WC.region ?_
          refine WL.y (Yl.move rfl) rfl ?_ -- t61
          refine WL.y (Yl.move rfl) rfl ?_ -- t62
          refine WL.y (Yl.index un29 sz3 rfl rfl (Reads.of (r := ownR (.slice q.1 m.length q.2) 3 1 m.length (ints .i64 (mdI m))) RdOf.own (by repeat (first | exact Take1.head | apply Take1.tail))) rfl (by omega)) rfl ?_ -- t63
          refine WL.y (Yl.loadE (j := i) (u := .int .i64 (plI o)) on3 rfl (Reads.of (r := ownR (.slice q.1 m.length q.2) 3 1 m.length (ints .i64 (mdI m))) RdOf.own (by repeat (first | exact Take1.head | apply Take1.tail))) (mdI_cell ho)) rfl ?_
          refine WL.y (Yl.geq rfl rfl) rfl ?_ -- t65
          refine WL.nil ?_
          refine WC.condD rfl (fun g65 => ?_) (fun g65 => ?_)
          · obtain ⟨j, rfl⟩ := plI_some g65
            have hjP := hwk.md j hom
            refine WC.region ?_
            refine WL.y (Yl.move rfl) rfl ?_ -- t66
            refine WL.y (Yl.move rfl) rfl ?_ -- t67
            refine WL.y (Yl.move rfl) rfl ?_ -- t68
            refine WL.y (Yl.index un29 sz3 rfl rfl (Reads.of (r := ownR (.slice q.1 m.length q.2) 3 1 m.length (ints .i64 (mdI m))) RdOf.own (by repeat (first | exact Take1.head | apply Take1.tail))) rfl (by omega)) rfl ?_ -- t69
            refine WL.y (Yl.loadE (j := i) (u := .int .i64 (j : Int)) on3 rfl (Reads.of (r := ownR (.slice q.1 m.length q.2) 3 1 m.length (ints .i64 (mdI m))) RdOf.own (by repeat (first | exact Take1.head | apply Take1.tail))) (mdI_cell ho)) rfl ?_
            refine WL.y (Yl.index un44 sz4 rfl rfl (Reads.of (r := ownR (.slice (some ⟨b39, 0, none⟩) ps.length ps.length) 4 1 ps.length (vcs Value.bool h)) RdOf.own (by repeat (first | exact Take1.head | apply Take1.tail))) (j := j) rfl (by omega)) rfl ?_ -- t71
            refine WL.sto (Sto.elemV (j := j) (u := true) vtB boAll trivial rfl rfl (by repeat (first | exact Take1.head | apply Take1.tail)) (by omega) (by omega)) (fun _ h => nomatch h) ?_
            refine WL.nil ?_
            refine WC.region ?_
            refine WL.y (Yl.add rfl rfl (IntWalk.i64_in _ (by omega))) rfl ?_ -- t72
            refine WL.y (Yl.move rfl) rfl ?_ -- t42
            refine WL.nil ?_
            exact ⟨rfl, (i + 1, g ++ [tmO1 P (some j)], (ao60, c60), h.set j true), ⟨by dsimp only; omega, hG.some hwk him hom⟩, by dsimp only; omega, (by repeat (first | exact Sub.nil | refine Sub.cons rfl ?_)), _, (by repeat (first | exact TakeL.nil | (apply TakeL.cons; · repeat (first | exact Take1.head | apply Take1.tail))))⟩
          · refine WC.skip ?_
            refine WC.region ?_
            refine WL.y (Yl.add rfl rfl (IntWalk.i64_in _ (by omega))) rfl ?_ -- t72
            refine WL.y (Yl.move rfl) rfl ?_ -- t42
            refine WL.nil ?_
            have h0 := plI_none g65
            subst h0
            exact ⟨rfl, (i + 1, g ++ [tmO1 P none], (ao60, c60), h), ⟨by dsimp only; omega, hG.none him⟩, by dsimp only; omega, (by repeat (first | exact Sub.nil | refine Sub.cons rfl ?_)), _, (by repeat (first | exact TakeL.nil | (apply TakeL.cons; · repeat (first | exact Take1.head | apply Take1.tail))))⟩
        · refine WC.skip ?_
          refine WC.region ?_
          refine WL.y (Yl.add rfl rfl (IntWalk.i64_in _ (by omega))) rfl ?_ -- t72
          refine WL.y (Yl.move rfl) rfl ?_ -- t42
          refine WL.nil ?_
          exact ⟨rfl, (i + 1, g, z, h), ⟨by dsimp only; omega, hG.skip⟩, by dsimp only; omega, (by repeat (first | exact Sub.nil | refine Sub.cons rfl ?_)), _, (by repeat (first | exact TakeL.nil | (apply TakeL.cons; · repeat (first | exact Take1.head | apply Take1.tail))))⟩
      · refine WL.off rfl rfl rfl rfl ?_ -- t49
        refine WL.off rfl rfl rfl rfl ?_ -- t50
        refine WL.off rfl rfl rfl rfl ?_ -- t51
        refine WL.off rfl rfl rfl rfl ?_ -- t52
        refine WL.y (Yl.pickF rfl rfl) rfl ?_ -- t53
        refine WL.nil ?_
        refine WC.condF rfl (by first | rfl | (simp; done) | (simp; omega)) ?_
        refine WC.skip ?_
        refine WC.region ?_
        refine WL.y (Yl.add rfl rfl (IntWalk.i64_in _ (by omega))) rfl ?_ -- t72
        refine WL.y (Yl.move rfl) rfl ?_ -- t42
        refine WL.nil ?_
        exact ⟨rfl, (i + 1, g, z, h), ⟨by dsimp only; omega, hG.skip⟩, by dsimp only; omega, (by repeat (first | exact Sub.nil | refine Sub.cons rfl ?_)), _, (by repeat (first | exact TakeL.nil | (apply TakeL.cons; · repeat (first | exact Take1.head | apply Take1.tail))))⟩
    · refine WC.exit ?_
      refine WC.seq ?_
      have hwl := wLs_lm hG.lm
      have hph : h.length = ps.length := by omega
      refine WC.region ?_
      refine WL.y (Yl.move rfl) rfl ?_ -- t73
      refine WL.callC (xs := [.tmp 73]) (cap := []) rfl rfl en13 (by repeat (first | exact TakeL.nil | (apply TakeL.cons; · repeat (first | exact Take1.head | apply Take1.tail)))) (fun w hw => close_any g (fun o ho => (hG.lm o ho).t) (by omega) _ w (hw.src (A := []) (r := ownR (.slice z.1 g.length z.2) 34 1 g.length (vcs tmV g)) RdOf.own (by repeat (first | exact Take1.head | apply Take1.tail))) hw.left.here) rfl ?_ -- t74 hailer/term.Close
      rintro ⟨k12, n12, mk⟩ ⟨hcl1, hcl2⟩
      dsimp only [List.cons_append, List.nil_append] at hcl1 hcl2 ⊢
      have hmg : MpG mk := mpg_of hcl2
      refine WL.fact (fun w h => (by obtain ⟨es, clock, _, he, hs⟩ := h.get (r := mapR tmV unV n12 mk) (by repeat (first | exact Take1.head | apply Take1.tail)); exact ent_nd he hs : mnd mk)) (fun hnd => ?_)
      refine WL.view (fun w h => h.roOne (r := blkR k12 78 [.map (some n12)]) (by repeat (first | exact Take1.head | apply Take1.tail))) ?_
      refine WL.view (fun w h => h.roOne (r := mapR tmV unV n12 mk) (by repeat (first | exact Take1.head | apply Take1.tail))) ?_
      refine WL.y (Yl.assign rfl) rfl ?_ -- t12
      refine WL.nil ?_
      refine WC.seq ?_
      refine WC.region ?_
      refine WL.y (Yl.move rfl) rfl ?_ -- t75
      refine WL.y (Yl.move rfl) rfl ?_ -- t76
      refine WL.callC (xs := [.tmp 75, .tmp 76]) (cap := []) rfl rfl en21 (by repeat (first | exact TakeL.nil | (apply TakeL.cons; · repeat (first | exact Take1.head | apply Take1.tail)))) (fun w hw => rclose_any ps _ _ h (by omega) (by rw [hps]; exact hwk.p) hph w (hw.srcL (A := []) (r := ownR (.slice y.1 ps.length y.2) 38 3 ps.length (vcs pnV ps)) RdOf.own (by repeat (first | exact Take1.head | apply Take1.tail)) (by repeat (first | exact Take1.head | apply Take1.tail))) (by rw [hph]; exact hw.src (A := []) (r := ownR (.slice (some ⟨b39, 0, none⟩) ps.length ps.length) 4 1 ps.length (vcs Value.bool h)) RdOf.own (by repeat (first | exact Take1.head | apply Take1.tail))) hw.left.here) rfl ?_ -- t77 (hailer/hailerref21.Pool).Close
      rintro ⟨d, yd⟩ hcd
      rw [hps] at hcd
      dsimp only [List.cons_append, List.nil_append] at hcd ⊢
      have hdl := hcd.len
      refine WL.y (Yl.assign rfl) rfl ?_ -- t13
      refine WL.nil ?_
      refine WC.seq ?_
      refine WC.region ?_
      refine WL.y (Yl.move rfl) rfl ?_ -- t78
      refine WL.y (Yl.move rfl) rfl ?_ -- t79
      refine WL.callC (xs := [.tmp 78, .tmp 79]) (cap := []) rfl rfl en22 (by repeat (first | exact TakeL.nil | (apply TakeL.cons; · repeat (first | exact Take1.head | apply Take1.tail)))) (fun w hw => rcan_any ps _ _ d (by omega) (by rw [hps]; exact hwk.p) (by omega) w (hw.srcL (A := []) (r := ownR (.slice y.1 ps.length y.2) 38 3 ps.length (vcs pnV ps)) RdOf.own (by repeat (first | exact Take1.head | apply Take1.tail)) (by repeat (first | exact Take1.head | apply Take1.tail))) (hw.src (A := []) (r := ownR (.slice yd.1 d.length yd.2) 4 1 d.length (vcs Value.bool d)) RdOf.own (by repeat (first | exact Take1.head | apply Take1.tail))) hw.left.here) rfl ?_ -- t80 (hailer/hailerref21.Pool).Can
      rintro ⟨cn, yc⟩ hcc2
      rw [hps] at hcc2
      dsimp only [List.cons_append, List.nil_append] at hcc2 ⊢
      have hcl3 := hcc2.len
      have hin : ∀ t, inM mk t ↔ tsP P (cP d) t := fun t => (hcl1 t).trans (cl_pool hwk hG hcd t)
      refine WL.y (Yl.assign rfl) rfl ?_ -- t14
      refine WL.nil ?_
      refine WC.seq ?_
      refine WC.region ?_
      refine WL.to (To.makeMap tmV unV) rfl ?_ -- t81
      intro b81
      refine WL.to (To.alloc (cs := [.map none]) zr59 rfl) rfl ?_ -- t15
      intro b15
      refine WL.sto (Sto.one sz59 rfl rfl (by repeat (first | exact Take1.head | apply Take1.tail)) rfl (by rfl) (by rfl)) (fun _ h => nomatch h) ?_ -- st 4
      refine WL.nil ?_
      refine WC.seq ?_
      refine WC.seq ?_
      refine WC.view (fun w h => h.dup (r := roR (blkR k12 78 [.map (some n12)])) (by repeat (first | exact Take1.head | apply Take1.tail)) (fun _ h => h)) ?_
      refine WC.view (fun w h => h.dup (r := roR (mapR tmV unV n12 mk)) (by repeat (first | exact Take1.head | apply Take1.tail)) (fun _ h => h)) ?_
      refine WC.region ?_
      refine WL.y (Yl.move rfl) rfl ?_ -- t82
      refine WL.callC (xs := [.tmp 82]) (cap := []) rfl rfl en23 (by repeat (first | exact TakeL.nil | (apply TakeL.cons; · repeat (first | exact Take1.head | apply Take1.tail)))) (fun w hw => all_any k12 n12 mk w hw.left.here) rfl ?_ -- t83 (*hailer/term.Known).All
      rintro ⟨b83, own83⟩ -
      dsimp only [List.cons_append, List.nil_append]
      refine WL.nil ?_
      refine WC.block ?_
      refine WC.rangeP (α := MpT) (lb := [.pointer (some ⟨b83, 0, none⟩)]) (xs := ksY mk) (fun _ s => [blkR b15 59 [.map (some b81)], mapR tmV unV b81 s]) (fun i s => Fd mk s i) [] rfl en54 ksY_size rfl (by repeat (first | exact Take1.head | apply Take1.tail)) (Fd.start mk) (by repeat (first | exact TakeL.nil | (apply TakeL.cons; · repeat (first | exact Take1.head | apply Take1.tail)))) ?_ ?_
      · rintro l2 i x s hx2 hs W
        dsimp only
        obtain ⟨o, rfl, hog, hno, hnx⟩ := hs.next hmg hnd hx2
        have hsg := hs.g
        show WC _ _ _ ((84, tmV o) :: _) _ _
        refine WC.region ?_
        refine WL.to (To.alloc (cs := [.string (strOfNums [])]) zr34 rfl) rfl ?_ -- t16
        intro b16
        refine WL.sto (Sto.agg sz34 rfl rfl (by repeat (first | exact Take1.head | apply Take1.tail)) (tm_ones _) rfl (by rfl) (show _ = tmC o from rfl)) (fun _ h => nomatch h) ?_ -- st 5
        refine WL.nil ?_
        repeat (first | (with_reducible refine peelT ?_) | (with_reducible refine peelB ?_) | (with_reducible refine peelTX ?_) | (with_reducible refine peelBX ?_) | (with_reducible refine peelBN ?_) | (with_reducible refine peelBO rfl ?_))
        refine fun W2 => ?_
        refine WC.block ?_
        refine WC.seq ?_
        refine WC.seq ?_
        refine WC.region ?_
        refine WL.y (Yl.load on59 rfl (by repeat (first | exact Take1.head | apply Take1.tail)) (by rfl)) rfl ?_ -- t86
        refine WL.y (Yl.loadN ag34 rfl (by repeat (first | exact Take1.head | apply Take1.tail)) (by rfl) (show _ = tmC o from rfl)) rfl ?_ -- t87
        refine WL.y (Yl.lookupOk (kv := tmV) keyTm un59 (fun _ => by kernel_rfl) (z := .agg #[]) hsg rfl rfl hog (MReads.of (m := s) MapOf.own (by repeat (first | exact Take1.head | apply Take1.tail)))) rfl ?_ -- t88
        refine WL.y (Yl.move rfl) rfl ?_ -- t85
        refine WL.y (Yl.extract rfl rfl) rfl ?_ -- t89
        refine WL.say (t := 89) (v' := .agg #[]) rfl (by (cases mget s o <;> rfl)) ?_
        refine WL.y (Yl.extract rfl rfl) rfl ?_ -- t90
        refine WL.know (t := 90) (b' := false) rfl (by rw [hno]; rfl) ?_
        refine WL.to (To.alloc (cs := []) zr60 rfl) rfl ?_ -- t17
        intro b17
        refine WL.sto (Sto.agg sz60 rfl rfl (by repeat (first | exact Take1.head | apply Take1.tail)) (fun _ h => nomatch h) rfl (by rfl) (show _ = [] from rfl)) (fun _ h => nomatch h) ?_ -- st 6
        refine WL.y (Yl.assign rfl) rfl ?_ -- t18
        refine WL.nil ?_
        refine WC.seq ?_
        refine WC.region ?_
        refine WL.y (Yl.move rfl) rfl ?_ -- t91
        refine WL.nil ?_
        refine WC.condF rfl (by first | rfl | (simp; done) | (simp; omega)) ?_
        refine WC.skip ?_
        refine WC.region ?_
        refine WL.y (Yl.load on59 rfl (by repeat (first | exact Take1.head | apply Take1.tail)) (by rfl)) rfl ?_ -- t92
        refine WL.y (Yl.loadN ag34 rfl (by repeat (first | exact Take1.head | apply Take1.tail)) (by rfl) (show _ = tmC o from rfl)) rfl ?_ -- t93
        refine WL.y (Yl.build rfl (cs := []) (fun _ => by kernel_rfl)) rfl ?_ -- t94
        refine WL.sto (Sto.mapPut (v := ()) (q := o) (m := s) (kv := tmV) keyTm un59 hsg rfl rfl hog rfl (by repeat (first | exact Take1.head | apply Take1.tail))) (fun _ h => nomatch h) ?_ -- st 8
        refine WL.nil ?_
        repeat (first | (with_reducible refine peelT ?_) | (with_reducible refine peelB ?_) | (with_reducible refine peelTX ?_) | (with_reducible refine peelBX ?_) | (with_reducible refine peelBN ?_) | (with_reducible refine peelBO rfl ?_))
        rw [mput_new' hno]
        exact ⟨[blkR b15 59 [.map (some b81)], mapR tmV unV b81 (s ++ [(o, ())])], _, (by repeat (first | exact TakeL.nil | (apply TakeL.cons; · repeat (first | exact Take1.head | apply Take1.tail)))), s ++ [(o, ())], hnx, rfl⟩
      · rintro ys s D hp hs
        obtain ⟨hsl, hsm⟩ := hs.done hmg hp
        have hsg := hs.g
        dsimp only [List.cons_append, List.nil_append]
        refine WC.seq ?_
        refine WC.region ?_
        refine WL.y (Yl.assign rfl) rfl ?_ -- t19
        refine WL.nil ?_
        refine WC.seq ?_
        refine WC.seq ?_
        refine WC.region ?_
        refine WL.y (Yl.move rfl) rfl ?_ -- t95
        refine WL.y (Yl.len un44 rfl) rfl ?_ -- t96
        refine WL.y (Yl.move rfl) rfl ?_ -- t97
        refine WL.nil ?_
        refine WC.block ?_
        refine WC.loop (α := Nat) (fun j => [(4, .pointer (some ⟨b4, 0, none⟩)), (5, .slice ym.1 (tmO P m).length ym.2), (7, .slice q.1 m.length q.2), (12, .pointer (some ⟨k12, 0, none⟩)), (13, .slice yd.1 d.length yd.2), (14, .slice yc.1 cn.length yc.2), (15, .pointer (some ⟨b15, 0, none⟩)), (19, .int .i64 (((d.take j).count true : Nat) : Int)), (95, .slice yd.1 d.length yd.2), (96, .int .i64 (d.length : Int)), (97, .int .i64 (j : Int))]) (fun _ => [objR D (.deferred (some [])), blkR b15 59 [.map (some b81)], mapR tmV unV b81 s, blkR b4 4 [.bool false], ownR (.slice ym.1 (tmO P m).length ym.2) 34 1 (tmO P m).length (vcs tmV (tmO P m)), ownR (.slice q.1 m.length q.2) 3 1 m.length (ints .i64 (mdI m)), ownR (.slice yd.1 d.length yd.2) 4 1 d.length (vcs Value.bool d), ownR (.slice yc.1 cn.length yc.2) 4 1 cn.length (vcs Value.bool cn), roR (blkR k12 78 [.map (some n12)]), roR (mapR tmV unV n12 mk)]) (fun j => j ≤ d.length) (fun j => d.length - j) 0 (Nat.zero_le _) ⟨(by repeat (first | exact Sub.nil | refine Sub.cons rfl ?_)), _, (by repeat (first | exact TakeL.nil | (apply TakeL.cons; · repeat (first | exact Take1.head | apply Take1.tail))))⟩ ?_
        intro j hj
        refine WC.seq ?_
        refine WC.region ?_
        refine WL.y (Yl.lss rfl rfl) rfl ?_ -- t98
        refine WL.nil ?_
        refine WC.seq ?_
        refine WC.condD rfl (fun g98 => ?_) (fun g98 => ?_)
        · refine WC.skip ?_
          refine WC.seq ?_
          refine WC.block ?_
          refine WC.seq ?_
          have hjl : j < d.length := by have := g98; omega
          obtain ⟨b, hb⟩ : ∃ o, d[j]? = some o := ⟨_, List.getElem?_eq_getElem hjl⟩
          have hcn := count_next hb
          have hcle : (d.take j).count true ≤ d.length := Nat.le_trans List.count_le_length (by rw [List.length_take]; omega)
          refine WC.region ?_
          refine WL.y (Yl.index un44 sz4 rfl rfl (Reads.of (r := ownR (.slice yd.1 d.length yd.2) 4 1 d.length (vcs Value.bool d)) RdOf.own (by repeat (first | exact Take1.head | apply Take1.tail))) rfl (by omega)) rfl ?_ -- t99
          refine WL.y (Yl.loadV vtB boAll rfl (Reads.of (r := ownR (.slice yd.1 d.length yd.2) 4 1 d.length (vcs Value.bool d)) RdOf.own (by repeat (first | exact Take1.head | apply Take1.tail))) rfl hb) rfl ?_ -- t100
          refine WL.y (Yl.assign rfl) rfl ?_ -- t21
          refine WL.nil ?_
          refine WC.seq ?_
          refine WC.region ?_
          refine WL.y (Yl.move rfl) rfl ?_ -- t101
          refine WL.nil ?_
          refine WC.cond rfl (fun g101 => ?_) (fun g101 => ?_)
          · refine WC.region ?_
            refine WL.y (Yl.move rfl) rfl ?_ -- t102
            refine WL.y (Yl.add rfl rfl (IntWalk.i64_in _ (by omega))) rfl ?_ -- t103
            refine WL.say (t := 103) (v' := .int .i64 (((d.take (j + 1)).count true : Nat) : Int)) rfl (by (refine congrArg (Value.int .i64) ?_; rw [hcn, g101]; simp)) ?_
            refine WL.y (Yl.assign rfl) rfl ?_ -- t19
            refine WL.nil ?_
            refine WC.region ?_
            refine WL.y (Yl.add rfl rfl (IntWalk.i64_in _ (by omega))) rfl ?_ -- t104
            refine WL.y (Yl.move rfl) rfl ?_ -- t97
            refine WL.nil ?_
            exact ⟨rfl, j + 1, by omega, by omega, (by repeat (first | exact Sub.nil | refine Sub.cons rfl ?_)), _, (by repeat (first | exact TakeL.nil | (apply TakeL.cons; · repeat (first | exact Take1.head | apply Take1.tail))))⟩
          · refine WC.skip ?_
            refine WC.region ?_
            refine WL.y (Yl.add rfl rfl (IntWalk.i64_in _ (by omega))) rfl ?_ -- t104
            refine WL.y (Yl.move rfl) rfl ?_ -- t97
            refine WL.nil ?_
            rw [g101] at hcn
            refine ⟨rfl, j + 1, by omega, by omega, ?_, _, (by repeat (first | exact TakeL.nil | (apply TakeL.cons; · repeat (first | exact Take1.head | apply Take1.tail))))⟩
            rw [hcn]
            exact (by repeat (first | exact Sub.nil | refine Sub.cons rfl ?_))
        · refine WC.exit ?_
          refine WC.seq ?_
          refine WC.seq ?_
          have hjd : j = d.length := by have := g98; omega
          subst hjd
          rw [List.take_length]
          have hct := known_cnt hwk hnd (fun p hp => (hcl2 p hp).2) hdl hin
          refine WC.region ?_
          refine WL.y (Yl.load on59 rfl (by repeat (first | exact Take1.head | apply Take1.tail)) (by rfl)) rfl ?_ -- t105
          refine WL.y (Yl.lenM un59 rfl (MReads.of (m := s) MapOf.own (by repeat (first | exact Take1.head | apply Take1.tail)))) rfl ?_ -- t106
          refine WL.y (Yl.move rfl) rfl ?_ -- t107
          refine WL.y (Yl.neq rfl rfl) rfl ?_ -- t108
          refine WL.know (t := 108) (b' := false) rfl (by rw [hsl, hct]; simp) ?_
          refine WL.nil ?_
          refine WC.condF rfl (by first | rfl | (simp; done) | (simp; omega)) ?_
          refine WC.skip ?_
          refine WC.seq ?_
          refine WC.seq ?_
          refine WC.region ?_
          refine WL.y (Yl.move rfl) rfl ?_ -- t109
          refine WL.y (Yl.len un29 rfl) rfl ?_ -- t110
          refine WL.y (Yl.move rfl) rfl ?_ -- t111
          refine WL.nil ?_
          refine WC.block ?_
          refine WC.loop (α := Nat) (fun j => [(4, .pointer (some ⟨b4, 0, none⟩)), (5, .slice ym.1 (tmO P m).length ym.2), (7, .slice q.1 m.length q.2), (12, .pointer (some ⟨k12, 0, none⟩)), (13, .slice yd.1 d.length yd.2), (14, .slice yc.1 cn.length yc.2), (15, .pointer (some ⟨b15, 0, none⟩)), (109, .slice q.1 m.length q.2), (110, .int .i64 (m.length : Int)), (111, .int .i64 (j : Int))]) (fun _ => [objR D (.deferred (some [])), blkR b15 59 [.map (some b81)], mapR tmV unV b81 s, blkR b4 4 [.bool false], ownR (.slice ym.1 (tmO P m).length ym.2) 34 1 (tmO P m).length (vcs tmV (tmO P m)), ownR (.slice q.1 m.length q.2) 3 1 m.length (ints .i64 (mdI m)), ownR (.slice yd.1 d.length yd.2) 4 1 d.length (vcs Value.bool d), ownR (.slice yc.1 cn.length yc.2) 4 1 cn.length (vcs Value.bool cn), roR (blkR k12 78 [.map (some n12)]), roR (mapR tmV unV n12 mk)]) (fun j => j ≤ m.length) (fun j => m.length - j) 0 (Nat.zero_le _) ⟨(by repeat (first | exact Sub.nil | refine Sub.cons rfl ?_)), _, (by repeat (first | exact TakeL.nil | (apply TakeL.cons; · repeat (first | exact Take1.head | apply Take1.tail))))⟩ ?_
          intro i2 hi2
          refine WC.seq ?_
          refine WC.region ?_
          refine WL.y (Yl.lss rfl rfl) rfl ?_ -- t112
          refine WL.nil ?_
          refine WC.seq ?_
          refine WC.condD rfl (fun g112 => ?_) (fun g112 => ?_)
          · refine WC.skip ?_
            refine WC.seq ?_
            refine WC.block ?_
            refine WC.seq ?_
            have hil : i2 < m.length := by have := g112; omega
            obtain ⟨o, ho⟩ : ∃ o, m[i2]? = some o := ⟨_, List.getElem?_eq_getElem hil⟩
            have hT := tmO_get (P := P) ho
            have hom := List.mem_of_getElem? ho
            have holm := hwk.lm hom
            refine WC.region ?_
            refine WL.y (Yl.move rfl) rfl ?_ -- t113
            refine WL.y (Yl.index un29 sz3 rfl rfl (Reads.of (r := ownR (.slice q.1 m.length q.2) 3 1 m.length (ints .i64 (mdI m))) RdOf.own (by repeat (first | exact Take1.head | apply Take1.tail))) rfl (by omega)) rfl ?_ -- t114
            refine WL.y (Yl.loadE (j := i2) (u := .int .i64 (plI o)) on3 rfl (Reads.of (r := ownR (.slice q.1 m.length q.2) 3 1 m.length (ints .i64 (mdI m))) RdOf.own (by repeat (first | exact Take1.head | apply Take1.tail))) (mdI_cell ho)) rfl ?_
            refine WL.y (Yl.assign rfl) rfl ?_ -- t22
            refine WL.y (Yl.assign rfl) rfl ?_ -- t23
            refine WL.nil ?_
            refine WC.seq ?_
            refine WC.seq ?_
            refine WC.region ?_
            refine WL.y (Yl.move rfl) rfl ?_ -- t116
            refine WL.y (Yl.lss rfl rfl) rfl ?_ -- t117
            refine WL.nil ?_
            refine WC.condD rfl (fun g117 => ?_) (fun g117 => ?_)
            · refine WC.exit ?_
              refine WC.region ?_
              refine WL.y (Yl.add rfl rfl (IntWalk.i64_in _ (by omega))) rfl ?_ -- t146
              refine WL.y (Yl.move rfl) rfl ?_ -- t111
              refine WL.nil ?_
              exact ⟨rfl, i2 + 1, by omega, by omega, (by repeat (first | exact Sub.nil | refine Sub.cons rfl ?_)), _, (by repeat (first | exact TakeL.nil | (apply TakeL.cons; · repeat (first | exact Take1.head | apply Take1.tail))))⟩
            · refine WC.skip ?_
              refine WC.seq ?_
              obtain ⟨p, rfl⟩ := plI_some (o := o) (by omega)
              have hpP := hwk.md p hom
              have hpo := hwk.ok hpP
              have hpg : GTm (tmO1 P (some p)) := holm.t.g
              have hlen : (encO (tmO1 P (some p))).length ≤ 40000 := holm.2
              obtain ⟨bd, hbd⟩ : ∃ z, d[p]? = some z := ⟨_, List.getElem?_eq_getElem (by omega)⟩
              obtain ⟨bc, hbc⟩ : ∃ z, cn[p]? = some z := ⟨_, List.getElem?_eq_getElem (by omega)⟩
              have hfd : (mget s (tmO1 P (some p))).isSome = bd := by
                rw [Bool.eq_iff_iff, ← cP_at hbd]
                refine (hsm (trP P p) hpo.1).trans ((hin _).trans ⟨?_, fun h => ⟨p, hpP, h, rfl⟩⟩)
                rintro ⟨j, hj, hc, e⟩
                rw [← trs_inj hwk.p hj hpP e]
                exact hc
              have hcb : canB mk (tmO1 P (some p)) = bc := by
                rw [Bool.eq_iff_iff, ← cP_at hbc]
                exact canB_iff.trans ((canP_congr hin _).trans (hcc2.is p hpP).symm)
              refine WC.drawAny (Hs := [blkR b15 59 [.map (some b81)], mapR tmV unV b81 s, ownR (.slice ym.1 (tmO P m).length ym.2) 34 1 (tmO P m).length (vcs tmV (tmO P m))]) mixed (by kernel_rfl) ⟨_, (by repeat (first | exact TakeL.nil | (apply TakeL.cons; · repeat (first | exact Take1.head | apply Take1.tail))))⟩ ?_
              refine WD.take 0 rfl (by kernel_rfl) (by kernel_rfl) (by kernel_rfl) rfl rfl (Yl.load on59 rfl (by repeat (first | exact Take1.head | apply Take1.tail)) (by rfl)) rfl ?_ -- t119
              refine WD.take 1 rfl (by kernel_rfl) (by kernel_rfl) (by kernel_rfl) rfl rfl (Yl.move rfl) rfl ?_ -- t120
              refine WD.take 2 rfl (by kernel_rfl) (by kernel_rfl) (by kernel_rfl) rfl rfl (Yl.move rfl) rfl ?_ -- t121
              refine WD.take 3 rfl (by kernel_rfl) (by kernel_rfl) (by kernel_rfl) rfl rfl (Yl.index un25 sz34 rfl rfl (Reads.of (r := ownR (.slice ym.1 (tmO P m).length ym.2) 34 1 (tmO P m).length (vcs tmV (tmO P m))) RdOf.own (by repeat (first | exact Take1.head | apply Take1.tail))) rfl (by omega)) rfl ?_ -- t122
              refine WD.take 4 rfl (by kernel_rfl) (by kernel_rfl) (by kernel_rfl) rfl rfl (Yl.loadV vtM hO rfl (Reads.of (r := ownR (.slice ym.1 (tmO P m).length ym.2) 34 1 (tmO P m).length (vcs tmV (tmO P m))) RdOf.own (by repeat (first | exact Take1.head | apply Take1.tail))) rfl hT) rfl ?_ -- t123
              refine WD.take 5 rfl (by kernel_rfl) (by kernel_rfl) (by kernel_rfl) rfl rfl (Yl.lookupOk (kv := tmV) keyTm un59 (fun _ => by kernel_rfl) (z := .agg #[]) hsg rfl rfl hpg (MReads.of (m := s) MapOf.own (by repeat (first | exact Take1.head | apply Take1.tail)))) rfl ?_ -- t124
              refine WD.take 6 rfl (by kernel_rfl) (by kernel_rfl) (by kernel_rfl) rfl rfl (Yl.move rfl) rfl ?_ -- t118
              refine WD.take 7 rfl (by kernel_rfl) (by kernel_rfl) (by kernel_rfl) rfl rfl (Yl.extract rfl rfl) rfl ?_ -- t125
              refine WD.say (t := 125) (v' := .agg #[]) rfl (by (cases mget s (tmO1 P (some p)) <;> rfl)) ?_
              refine WD.take 8 rfl (by kernel_rfl) (by kernel_rfl) (by kernel_rfl) rfl rfl (Yl.extract rfl rfl) rfl ?_ -- t126
              refine WD.say (t := 126) (v' := .bool bd) rfl (by (rw [← hfd]; rfl)) ?_
              refine WD.one 9 (by kernel_rfl) ?_
              refine WO.to rfl rfl .no (To.alloc (cs := []) zr60 rfl) rfl (fun _ => ⟨_, (by repeat (first | exact TakeL.nil | (apply TakeL.cons; · repeat (first | exact Take1.head | apply Take1.tail))))⟩) ?_ -- t24
              intro b24
              refine WD.one 10 (by kernel_rfl) ?_
              refine WO.sto rfl rfl .no (Sto.agg sz60 rfl rfl (by repeat (first | exact Take1.head | apply Take1.tail)) (fun _ h => nomatch h) rfl (by rfl) (show _ = [] from rfl)) ⟨_, (by repeat (first | exact TakeL.nil | (apply TakeL.cons; · repeat (first | exact Take1.head | apply Take1.tail))))⟩ ?_ -- st 10
              refine WD.take 11 rfl (by kernel_rfl) (by kernel_rfl) (by kernel_rfl) rfl rfl (Yl.assign rfl) rfl ?_ -- t25
              refine WD.done (by kernel_rfl) ?_
              refine WC.seq ?_
              refine WC.drawAny (Hs := [ownR (.slice ym.1 (tmO P m).length ym.2) 34 1 (tmO P m).length (vcs tmV (tmO P m)), ownR (.slice yd.1 d.length yd.2) 4 1 d.length (vcs Value.bool d), ownR (.slice yc.1 cn.length yc.2) 4 1 cn.length (vcs Value.bool cn), roR (blkR k12 78 [.map (some n12)]), roR (mapR tmV unV n12 mk)]) mixed (by kernel_rfl) ⟨_, (by repeat (first | exact TakeL.nil | (apply TakeL.cons; · repeat (first | exact Take1.head | apply Take1.tail))))⟩ ?_
              refine WD.take 0 rfl (by kernel_rfl) (by kernel_rfl) (by kernel_rfl) rfl rfl (Yl.move rfl) rfl ?_ -- t127
              refine WD.take 1 rfl (by kernel_rfl) (by kernel_rfl) (by kernel_rfl) rfl rfl (Yl.move rfl) rfl ?_ -- t128
              refine WD.take 2 rfl (by kernel_rfl) (by kernel_rfl) (by kernel_rfl) rfl rfl (Yl.move rfl) rfl ?_ -- t129
              refine WD.take 3 rfl (by kernel_rfl) (by kernel_rfl) (by kernel_rfl) rfl rfl (Yl.index un44 sz4 rfl rfl (Reads.of (r := ownR (.slice yd.1 d.length yd.2) 4 1 d.length (vcs Value.bool d)) RdOf.own (by repeat (first | exact Take1.head | apply Take1.tail))) (j := p) rfl (by omega)) rfl ?_ -- t130
              refine WD.take 4 rfl (by kernel_rfl) (by kernel_rfl) (by kernel_rfl) rfl rfl (Yl.loadV vtB boAll rfl (Reads.of (r := ownR (.slice yd.1 d.length yd.2) 4 1 d.length (vcs Value.bool d)) RdOf.own (by repeat (first | exact Take1.head | apply Take1.tail))) rfl hbd) rfl ?_ -- t131
              refine WD.take 5 rfl (by kernel_rfl) (by kernel_rfl) (by kernel_rfl) rfl rfl (Yl.bNe un4 rfl rfl) rfl ?_ -- t132
              refine WD.know (t := 132) (b' := false) rfl (by simp) ?_
              refine WD.take 6 rfl (by kernel_rfl) (by kernel_rfl) (by kernel_rfl) rfl rfl (Yl.move rfl) rfl ?_ -- t133
              refine WD.takeOn 7 rfl (by kernel_rfl) (by kernel_rfl) (by kernel_rfl) rfl rfl rfl rfl (Yl.move rfl) rfl ?_ -- t134
              refine WD.takeOn 8 rfl (by kernel_rfl) (by kernel_rfl) (by kernel_rfl) rfl rfl rfl rfl (Yl.move rfl) rfl ?_ -- t135
              refine WD.takeOn 9 rfl (by kernel_rfl) (by kernel_rfl) (by kernel_rfl) rfl rfl rfl rfl (Yl.move rfl) rfl ?_ -- t136
              refine WD.takeOn 10 rfl (by kernel_rfl) (by kernel_rfl) (by kernel_rfl) rfl rfl rfl rfl (Yl.index un25 sz34 rfl rfl (Reads.of (r := ownR (.slice ym.1 (tmO P m).length ym.2) 34 1 (tmO P m).length (vcs tmV (tmO P m))) RdOf.own (by repeat (first | exact Take1.head | apply Take1.tail))) rfl (by omega)) rfl ?_ -- t137
              refine WD.takeOn 11 rfl (by kernel_rfl) (by kernel_rfl) (by kernel_rfl) rfl rfl rfl rfl (Yl.loadV vtM hO rfl (Reads.of (r := ownR (.slice ym.1 (tmO P m).length ym.2) 34 1 (tmO P m).length (vcs tmV (tmO P m))) RdOf.own (by repeat (first | exact Take1.head | apply Take1.tail))) rfl hT) rfl ?_ -- t138
              refine WD.takeOn 13 rfl (by kernel_rfl) (by kernel_rfl) (by kernel_rfl) rfl rfl rfl rfl (Yl.move rfl) rfl ?_ -- t140
              refine WD.takeOn 14 rfl (by kernel_rfl) (by kernel_rfl) (by kernel_rfl) rfl rfl rfl rfl (Yl.move rfl) rfl ?_ -- t141
              refine WD.takeOn 15 rfl (by kernel_rfl) (by kernel_rfl) (by kernel_rfl) rfl rfl rfl rfl (Yl.index un44 sz4 rfl rfl (Reads.of (r := ownR (.slice yc.1 cn.length yc.2) 4 1 cn.length (vcs Value.bool cn)) RdOf.own (by repeat (first | exact Take1.head | apply Take1.tail))) (j := p) rfl (by omega)) rfl ?_ -- t142
              refine WD.takeOn 16 rfl (by kernel_rfl) (by kernel_rfl) (by kernel_rfl) rfl rfl rfl rfl (Yl.loadV vtB boAll rfl (Reads.of (r := ownR (.slice yc.1 cn.length yc.2) 4 1 cn.length (vcs Value.bool cn)) RdOf.own (by repeat (first | exact Take1.head | apply Take1.tail))) rfl hbc) rfl ?_ -- t143
              refine WD.one 12 (by kernel_rfl) ?_
              refine WO.callC (xs := [.tmp 134, .tmp 138]) (cap := []) rfl (.on rfl rfl) rfl rfl en18 (by repeat (first | exact TakeL.nil | (apply TakeL.cons; · repeat (first | exact Take1.head | apply Take1.tail)))) (fun w hw => can_any k12 n12 mk hmg (tmO1 P (some p)) holm.1 (by omega) w (hw.getRo (by repeat (first | exact Take1.head | apply Take1.tail))) (hw.getRo (by repeat (first | exact Take1.head | apply Take1.tail)))) rfl (fun _ => ⟨_, (by repeat (first | exact TakeL.nil | (apply TakeL.cons; · repeat (first | exact Take1.head | apply Take1.tail))))⟩) ?_ -- t139 (*hailer/term.Known).Can
              rintro ⟨⟩ -
              refine WD.takeOn 17 rfl (by kernel_rfl) (by kernel_rfl) (by kernel_rfl) rfl rfl rfl rfl (Yl.bNe un4 rfl rfl) rfl ?_ -- t144
              refine WD.know (t := 144) (b' := false) rfl (by rw [hcb]; simp) ?_
              refine WD.take 18 rfl (by kernel_rfl) (by kernel_rfl) (by kernel_rfl) rfl rfl (Yl.pickF rfl rfl) rfl ?_ -- t145
              refine WD.done (by kernel_rfl) ?_
              refine WC.condF rfl (by first | rfl | (simp; done) | (simp; omega)) ?_
              refine WC.skip ?_
              refine WC.region ?_
              refine WL.y (Yl.add rfl rfl (IntWalk.i64_in _ (by omega))) rfl ?_ -- t146
              refine WL.y (Yl.move rfl) rfl ?_ -- t111
              refine WL.nil ?_
              exact ⟨rfl, i2 + 1, by omega, by omega, (by repeat (first | exact Sub.nil | refine Sub.cons rfl ?_)), _, (by repeat (first | exact TakeL.nil | (apply TakeL.cons; · repeat (first | exact Take1.head | apply Take1.tail))))⟩
          · refine WC.exit ?_
            refine WC.seq ?_
            refine WC.region ?_
            refine WL.sto (Sto.one sz4 rfl rfl (by repeat (first | exact Take1.head | apply Take1.tail)) rfl (by rfl) (by rfl)) (fun _ h => nomatch h) ?_ -- st 12
            refine WL.nil ?_
            refine WC.ret ?_
            repeat (first | (with_reducible refine peelT ?_) | (with_reducible refine peelB ?_) | (with_reducible refine peelTX ?_) | (with_reducible refine peelBX ?_) | (with_reducible refine peelBN ?_) | (with_reducible refine peelBO rfl ?_))
            refine retM.of (.cons (by repeat (first | exact Take1.head | apply Take1.tail)) .nil) ?_
            exact retV1 (.inr rfl) Try.results5 on4 rfl (by repeat (first | exact Take1.head | apply Take1.tail)) fun w' h => ⟨(), trivial, rfl, h.sub (by repeat (first | exact TakeL.nil | (apply TakeL.cons; · repeat (first | exact Take1.head | apply Take1.tail))))⟩
end Go.Proofs.Ytifhkjcimhhaiaa
