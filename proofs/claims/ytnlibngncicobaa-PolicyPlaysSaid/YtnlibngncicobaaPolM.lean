/- Policies: the chapter's rows: the walk; PolicyFits: the law. -/
import Derived.Test.YtnlibngncicobaaPolL
namespace Go.Proofs.Ytnlibngncicobaa
open Go Go.RowKit
set_option maxRecDepth 100000 in
set_option maxHeartbeats 1000000 in
theorem known_any (w : World) (hw : OK w (fpL []) [] w) : Fn Try.prog 8 [] [] w (fun _ : Unit => True) (fun _ => .bool true) (fun _ => []) := by
  obtain ⟨P, eP⟩ : ∃ P, P = nightP := ⟨_, rfl⟩
  have hP : P.ok := by rw [eP]; exact night_ok
  have hI : natI (idleU P.rl) = [2] := by rw [eP, night_idle]; rfl
  have hIl : (idleU P.rl).length = 1 := by rw [eP, night_idle]; rfl
  obtain ⟨Q, hQ⟩ : ∃ Q, noteU P 1 1300 = Q := ⟨_, rfl⟩
  have hQo : Q.ok := by rw [← hQ]; exact hP.note ⟨by decide, by decide⟩
  have hQa : askU Q 1 1400 = (1, 0) := by rw [← hQ, eP]; exact note_ask
  obtain ⟨K1, f1⟩ : ∃ K : Kr, K = ⟨1, 600, 1, -1⟩ := ⟨_, rfl⟩
  obtain ⟨K2, f2⟩ : ∃ K : Kr, K = ⟨1, 1400, 2, 0⟩ := ⟨_, rfl⟩
  obtain ⟨K3, f3⟩ : ∃ K : Kr, K = ⟨1, 1859, 2, 0⟩ := ⟨_, rfl⟩
  obtain ⟨K4, f4⟩ : ∃ K : Kr, K = ⟨3, 600, 3, 1⟩ := ⟨_, rfl⟩
  obtain ⟨K5, f5⟩ : ∃ K : Kr, K = ⟨3, 30, 2, 0⟩ := ⟨_, rfl⟩
  obtain ⟨R, hR⟩ : ∃ R, R = [K1, K2, K3, K4, K5] := ⟨_, rfl⟩
  have hRl : R.length = 5 := by rw [hR]; rfl
  have hRo : ∀ x ∈ R, askU P x.a x.n = (x.d, x.t) ∧ 0 ≤ x.a ∧ 0 ≤ x.n ∧ x.n < 18446744073709551616 := by
    rw [hR, f1, f2, f3, f4, f5, eP]
    exact kRows_is
  have hv20 : (vcs krV R).length = 5 * 4 := by rw [hR]; rfl
  have hPn : P = nightP := eP
  have hQn : noteU P 1 1300 = Q := hQ
  clear eP hQ
  refine enterM Try.func8 rfl Try.ntmps8 rfl hw ?_
  refine WC.seq ?_
  refine WC.region ?_
  refine WL.to (To.alloc (cs := [.bool false]) zr4 rfl) rfl ?_
  intro b0
  refine WL.nil ?_
  refine WC.seq ?_
  refine WC.region ?_
  refine WL.callC (xs := []) (cap := []) rfl rfl en31 (by repeat (first | exact TakeL.nil | (apply TakeL.cons; · repeat (first | exact Take1.head | apply Take1.tail)))) (fun w hw => night_any w hw.left.here) rfl ?_
  rintro ⟨bn, aoN, caN⟩ -
  rw [← hPn]
  dsimp only [polR, List.cons_append, List.nil_append]
  refine WL.y (Yl.assign rfl) rfl ?_
  refine WL.nil ?_
  refine WC.seq ?_
  refine WC.seq ?_
  refine WC.region ?_
  refine WL.y (Yl.move rfl) rfl ?_
  refine WL.y (Yl.nilEq un33 rfl rfl) rfl ?_
  refine WL.know (t := 17) (b' := false) rfl (by first | rfl | (simp; done) | (simp; omega)) ?_
  refine WL.nil ?_
  refine WC.condF rfl (by first | rfl | (simp; done) | (simp; omega)) ?_
  refine WC.skip ?_
  refine WC.seq ?_
  refine WC.seq ?_
  refine WC.region ?_
  refine WL.y (Yl.build rfl (cs := K1.cells) (fun _ => by rw [f1]; kernel_rfl)) rfl ?_
  refine WL.y (Yl.build rfl (cs := K2.cells) (fun _ => by rw [f2]; kernel_rfl)) rfl ?_
  refine WL.y (Yl.build rfl (cs := K3.cells) (fun _ => by rw [f3]; kernel_rfl)) rfl ?_
  refine WL.y (Yl.build rfl (cs := K4.cells) (fun _ => by rw [f4]; kernel_rfl)) rfl ?_
  refine WL.y (Yl.build rfl (cs := K5.cells) (fun _ => by rw [f5]; kernel_rfl)) rfl ?_
  refine WL.to (To.buildSlice (vs := [.agg K1.cells.toArray, .agg K2.cells.toArray, .agg K3.cells.toArray, .agg K4.cells.toArray, .agg K5.cells.toArray]) un73 zs72 rfl rfl (by simp [Value.cells, Kr.cells]) (by decide) (by decide)) rfl ?_
  intro b23
  rw [show flat [.agg K1.cells.toArray, .agg K2.cells.toArray, .agg K3.cells.toArray, .agg K4.cells.toArray, .agg K5.cells.toArray] = vcs krV R by rw [hR]; rfl]
  refine WL.y (Yl.len un73 rfl) rfl ?_
  refine WL.y (Yl.move rfl) rfl ?_
  refine WL.nil ?_
  refine WC.block ?_
  refine WC.loop (α := Nat) (fun k => [(0, .pointer (some ⟨b0, 0, none⟩)), (1, .pointer (some ⟨bn, 0, none⟩)), (23, .slice (some ⟨b23, 0, none⟩) 5 5), (24, .int .i64 5), (25, .int .i64 (k : Int))]) (fun k => [blkR b0 4 [.bool false], blkR bn 80 (P.cells (.slice aoN P.rl.length caN)), rdR (.slice aoN P.rl.length caN) 5 P.rl.length (vcs ruV P.rl), blkR b23 72 (vcs krV R)]) (fun k => k ≤ 5) (fun k => 5 - k) 0 (Nat.zero_le _) ⟨(by repeat (first | exact Sub.nil | refine Sub.cons rfl ?_)), _, (by repeat (first | exact TakeL.nil | (apply TakeL.cons; · repeat (first | exact Take1.head | apply Take1.tail))))⟩ ?_
  intro k hk
  refine WC.seq ?_
  refine WC.region ?_
  refine WL.y (Yl.lss rfl rfl) rfl ?_
  refine WL.nil ?_
  refine WC.seq ?_
  refine WC.condD rfl (fun g26 => ?_) (fun g26 => ?_)
  · refine WC.skip ?_
    refine WC.seq ?_
    refine WC.block ?_
    refine WC.seq ?_
    refine WC.region ?_
    have hkl : k < R.length := by omega
    obtain ⟨x, hx0⟩ : ∃ x, R[k]? = some x := ⟨_, List.getElem?_eq_getElem hkl⟩
    obtain ⟨hxa, hx1, hx2, hx3⟩ := hRo x (List.mem_of_getElem? hx0)
    refine WL.y (Yl.index un73 sz72 rfl rfl (show Reads _ _ (.slice (some ⟨b23, 0, none⟩) 5 5) 4 5 (vcs krV R) from Reads.of (RdOf.blk (size := 4) (n := 5) (cs := vcs krV R) (cs' := vcs krV R) (Nat.le_refl _) (by unfold maxLen; omega) (by rw [hv20]; omega) (by rw [List.drop_zero, List.take_of_length_le (by rw [hv20]; omega)])) (by repeat (first | exact Take1.head | apply Take1.tail))) rfl (by omega)) rfl ?_
    refine WL.y (Yl.loadV (v := .slice (some ⟨b23, 0, none⟩) 5 5) (j := k) (u := x) vtK (fun _ _ => trivial) rfl (show Reads _ _ (.slice (some ⟨b23, 0, none⟩) 5 5) 4 R.length (vcs krV R) by rw [hRl]; exact Reads.of (RdOf.blk (size := 4) (n := 5) (cs := vcs krV R) (cs' := vcs krV R) (Nat.le_refl _) (by unfold maxLen; omega) (by rw [hv20]; omega) (by rw [List.drop_zero, List.take_of_length_le (by rw [hv20]; omega)])) (by repeat (first | exact Take1.head | apply Take1.tail))) rfl hx0) rfl ?_
    refine WL.to (To.alloc (cs := (⟨0, 0, 0, 0⟩ : Kr).cells) zr72 rfl) rfl ?_
    intro b3
    refine WL.sto (Sto.agg sz72 rfl rfl (by repeat (first | exact Take1.head | apply Take1.tail)) (Kr.ones _) (show x.cells.length = 4 from rfl) (by rfl) (show _ = x.cells from rfl)) (fun _ h => nomatch h) ?_
    refine WL.nil ?_
    refine WC.seq ?_
    refine WC.region ?_
    refine WL.y (Yl.move rfl) rfl ?_
    refine WL.y (Yl.field fo72_0 rfl) rfl ?_
    refine WL.y (Yl.load on5 rfl (by repeat (first | exact Take1.head | apply Take1.tail)) (by rfl)) rfl ?_
    refine WL.y (Yl.field fo72_1 rfl) rfl ?_
    refine WL.y (Yl.load on25 rfl (by repeat (first | exact Take1.head | apply Take1.tail)) (by rfl)) rfl ?_
    refine WL.callC (xs := [.tmp 30, .tmp 32, .tmp 34]) (cap := []) rfl rfl en25 (by repeat (first | exact TakeL.nil | (apply TakeL.cons; · repeat (first | exact Take1.head | apply Take1.tail)))) (fun w hw => askK_any bn aoN caN P x.a x.n hx1 ⟨hx2, hx3⟩ hP w hw.left.here) rfl ?_
    rintro ⟨⟩ -
    rw [hxa]
    dsimp only [polR, List.cons_append, List.nil_append]
    refine WL.y (Yl.move rfl) rfl ?_
    refine WL.y (Yl.extract rfl rfl) rfl ?_
    refine WL.y (Yl.extract rfl rfl) rfl ?_
    refine WL.y (Yl.assign rfl) rfl ?_
    refine WL.y (Yl.assign rfl) rfl ?_
    refine WL.nil ?_
    refine WC.seq ?_
    refine WC.region ?_
    refine WL.y (Yl.move rfl) rfl ?_
    refine WL.y (Yl.field fo72_2 rfl) rfl ?_
    refine WL.y (Yl.load on5 rfl (by repeat (first | exact Take1.head | apply Take1.tail)) (by rfl)) rfl ?_
    refine WL.y (Yl.neq rfl rfl) rfl ?_
    refine WL.know (t := 41) (b' := false) rfl (by first | rfl | (simp; done) | (simp; omega)) ?_
    refine WL.y (Yl.move rfl) rfl ?_
    refine WL.on rfl rfl ?_
    refine WL.y (Yl.move rfl) rfl ?_
    refine WL.on rfl rfl ?_
    refine WL.y (Yl.field fo72_3 rfl) rfl ?_
    refine WL.on rfl rfl ?_
    refine WL.y (Yl.load on3 rfl (by repeat (first | exact Take1.head | apply Take1.tail)) (by rfl)) rfl ?_
    refine WL.on rfl rfl ?_
    refine WL.y (Yl.neq rfl rfl) rfl ?_
    refine WL.know (t := 46) (b' := false) rfl (by first | rfl | (simp; done) | (simp; omega)) ?_
    refine WL.y (Yl.pickF rfl rfl) rfl ?_
    refine WL.nil ?_
    refine WC.condF rfl (by first | rfl | (simp; done) | (simp; omega)) ?_
    refine WC.skip ?_
    refine WC.region ?_
    refine WL.y (Yl.add rfl rfl (IntWalk.i64_in _ (by omega))) rfl ?_
    refine WL.y (Yl.move rfl) rfl ?_
    refine WL.nil ?_
    exact ⟨rfl, k + 1, by omega, by omega, (by repeat (first | exact Sub.nil | refine Sub.cons rfl ?_)), _, (by repeat (first | exact TakeL.nil | (apply TakeL.cons; · repeat (first | exact Take1.head | apply Take1.tail))))⟩
  · refine WC.exit ?_
    refine WC.seq ?_
    refine WC.seq ?_
    refine WC.region ?_
    refine WL.y (Yl.move rfl) rfl ?_
    refine WL.callC (xs := [.tmp 49]) (cap := []) rfl rfl en21 (by repeat (first | exact TakeL.nil | (apply TakeL.cons; · repeat (first | exact Take1.head | apply Take1.tail)))) (fun w hw => lidleK_any bn aoN caN P hP w hw.left.here) rfl ?_
    rintro ⟨a50, c50⟩ -
    rw [hI, hIl]
    dsimp only [polR, List.cons_append, List.nil_append]
    refine WL.to (To.buildSlice (vs := [.int .i64 2]) un49 zs3 rfl rfl (by simp [Value.cells]) (by decide) (by decide)) rfl ?_
    intro b51
    refine WL.callC (xs := [.tmp 50, .tmp 51]) (cap := []) rfl rfl en20 (by repeat (first | exact TakeL.nil | (apply TakeL.cons; · repeat (first | exact Take1.head | apply Take1.tail)))) (fun w hw => equalI_any (.slice a50 1 c50) (.slice (some ⟨b51, 0, none⟩) 1 1) [2] [2] (by decide) w (hw.src (A := []) (r := ownR (.slice a50 1 c50) 3 1 1 (ints .i64 [2])) RdOf.own (by repeat (first | exact Take1.head | apply Take1.tail))) (hw.src (A := []) (RdOf.blk (size := 1) (n := 1) (cs := [.int .i64 2]) (Nat.le_refl _) (by unfold maxLen; omega) (by simp) rfl) (by repeat (first | exact Take1.head | apply Take1.tail))) hw.left.here) rfl ?_
    rintro ⟨⟩ -
    refine WL.know (t := 52) (b' := true) rfl (by first | rfl | (simp; done) | (simp; omega)) ?_
    refine WL.y (Yl.not rfl) rfl ?_
    refine WL.know (t := 53) (b' := false) rfl (by first | rfl | (simp; done) | (simp; omega)) ?_
    refine WL.nil ?_
    refine WC.condF rfl (by first | rfl | (simp; done) | (simp; omega)) ?_
    refine WC.skip ?_
    refine WC.seq ?_
    refine WC.region ?_
    refine WL.y (Yl.move rfl) rfl ?_
    refine WL.callC (xs := [.tmp 54, _, _]) (cap := []) rfl rfl en18 (by repeat (first | exact TakeL.nil | (apply TakeL.cons; · repeat (first | exact Take1.head | apply Take1.tail)))) (fun w hw => noteP_any bn aoN caN P 1 1300 (by decide) hP w hw.left.here) rfl ?_
    rintro ⟨⟩ -
    rw [hQn]
    dsimp only [polR, List.cons_append, List.nil_append]
    refine WL.nil ?_
    refine WC.seq ?_
    refine WC.region ?_
    refine WL.y (Yl.move rfl) rfl ?_
    refine WL.callC (xs := [.tmp 57, _, _]) (cap := []) rfl rfl en25 (by repeat (first | exact TakeL.nil | (apply TakeL.cons; · repeat (first | exact Take1.head | apply Take1.tail)))) (fun w hw => askK_any bn aoN caN Q 1 1400 (by decide) ⟨by decide, by decide⟩ hQo w hw.left.here) rfl ?_
    rintro ⟨⟩ -
    rw [hQa]
    dsimp only [polR, List.cons_append, List.nil_append]
    refine WL.y (Yl.move rfl) rfl ?_
    refine WL.y (Yl.extract rfl rfl) rfl ?_
    refine WL.y (Yl.extract rfl rfl) rfl ?_
    refine WL.y (Yl.assign rfl) rfl ?_
    refine WL.y (Yl.assign rfl) rfl ?_
    refine WL.nil ?_
    refine WC.seq ?_
    refine WC.region ?_
    refine WL.callC (xs := [_]) (cap := []) rfl rfl en13 (by repeat (first | exact TakeL.nil | (apply TakeL.cons; · repeat (first | exact Take1.head | apply Take1.tail)))) (fun w hw => newBad_any 0 (by decide) w hw.left.here) rfl ?_
    rintro ⟨⟩ -
    refine WL.y (Yl.move rfl) rfl ?_
    refine WL.y (Yl.extract rfl rfl) rfl ?_
    refine WL.y (Yl.extract rfl rfl) rfl ?_
    refine WL.y (Yl.assign rfl) rfl ?_
    refine WL.y (Yl.assign rfl) rfl ?_
    refine WL.nil ?_
    refine WC.seq ?_
    refine WC.region ?_
    refine WL.callC (xs := [_]) (cap := []) rfl rfl en23 (by repeat (first | exact TakeL.nil | (apply TakeL.cons; · repeat (first | exact Take1.head | apply Take1.tail)))) (fun w hw => loadBad_any (.slice none 0 0) [] (fun _ h => nomatch h) (by decide) (by kernel_rfl) w (fun _ _ => Rd.nil _ _) hw.left.here) rfl ?_
    rintro ⟨⟩ -
    refine WL.y (Yl.move rfl) rfl ?_
    refine WL.y (Yl.extract rfl rfl) rfl ?_
    refine WL.y (Yl.extract rfl rfl) rfl ?_
    refine WL.y (Yl.assign rfl) rfl ?_
    refine WL.y (Yl.assign rfl) rfl ?_
    refine WL.nil ?_
    refine WC.seq ?_
    refine WC.region ?_
    refine WL.y (Yl.assign rfl) rfl ?_
    refine WL.nil ?_
    refine WC.seq ?_
    refine WC.region ?_
    refine WL.y (Yl.move rfl) rfl ?_
    refine WL.callC (xs := [.tmp 69, _, _]) (cap := []) rfl rfl en18 (by repeat (first | exact TakeL.nil | (apply TakeL.cons; · repeat (first | exact Take1.head | apply Take1.tail)))) (fun w hw => noteNil_any 1 2 w hw.left.here) rfl ?_
    rintro ⟨⟩ -
    refine WL.nil ?_
    refine WC.seq ?_
    refine WC.region ?_
    refine WL.y (Yl.move rfl) rfl ?_
    refine WL.callC (xs := [.tmp 72, _, _]) (cap := []) rfl rfl en25 (by repeat (first | exact TakeL.nil | (apply TakeL.cons; · repeat (first | exact Take1.head | apply Take1.tail)))) (fun w hw => askNil_any 1 2 w hw.left.here) rfl ?_
    rintro ⟨⟩ -
    refine WL.y (Yl.move rfl) rfl ?_
    refine WL.y (Yl.extract rfl rfl) rfl ?_
    refine WL.y (Yl.extract rfl rfl) rfl ?_
    refine WL.y (Yl.assign rfl) rfl ?_
    refine WL.y (Yl.assign rfl) rfl ?_
    refine WL.nil ?_
    refine WC.seq ?_
    refine WC.seq ?_
    refine WC.region ?_
    refine WL.y (Yl.move rfl) rfl ?_
    refine WL.callC (xs := [.tmp 76]) (cap := []) rfl rfl en32 (by repeat (first | exact TakeL.nil | (apply TakeL.cons; · repeat (first | exact Take1.head | apply Take1.tail)))) (fun w hw => rulesNil_any w hw.left.here) rfl ?_
    rintro ⟨y77, own77⟩ -
    dsimp only [List.cons_append, List.nil_append]
    refine WL.nil ?_
    refine WC.block ?_
    refine WC.range (α := Unit) (xs := yrU []) (fun i s => [blkR b0 4 [.bool false]]) (fun _ _ => True) () rfl en71 yrU_size rfl (by repeat (first | exact Take1.head | apply Take1.tail)) trivial (by repeat (first | exact TakeL.nil | (apply TakeL.cons; · repeat (first | exact Take1.head | apply Take1.tail)))) (fun l i x s hx => by simp [yrU] at hx) ?_
    rintro _ D -
    dsimp only [List.cons_append, List.nil_append]
    refine WC.seq ?_
    refine WC.region ?_
    refine WL.y (Yl.move rfl) rfl ?_
    refine WL.y (Yl.eql rfl rfl) rfl ?_
    refine WL.know (t := 81) (b' := true) rfl (by first | rfl | (simp; done) | (simp; omega)) ?_
    refine WL.y (Yl.move rfl) rfl ?_
    refine WL.on rfl rfl ?_
    refine WL.y (Yl.move rfl) rfl ?_
    refine WL.on rfl rfl ?_
    refine WL.y (Yl.eql rfl rfl) rfl ?_
    refine WL.know (t := 84) (b' := true) rfl (by first | rfl | (simp; done) | (simp; omega)) ?_
    refine WL.y (Yl.pickT rfl rfl) rfl ?_
    refine WL.y (Yl.move rfl) rfl ?_
    refine WL.on rfl rfl ?_
    refine WL.y (Yl.move rfl) rfl ?_
    refine WL.on rfl rfl ?_
    refine WL.y (Yl.eql rfl rfl) rfl ?_
    refine WL.know (t := 88) (b' := true) rfl (by first | rfl | (simp; done) | (simp; omega)) ?_
    refine WL.y (Yl.pickT rfl rfl) rfl ?_
    refine WL.y (Yl.move rfl) rfl ?_
    refine WL.on rfl rfl ?_
    refine WL.y (Yl.move rfl) rfl ?_
    refine WL.on rfl rfl ?_
    refine WL.y (Yl.eql rfl rfl) rfl ?_
    refine WL.know (t := 92) (b' := true) rfl (by first | rfl | (simp; done) | (simp; omega)) ?_
    refine WL.y (Yl.pickT rfl rfl) rfl ?_
    refine WL.y (Yl.move rfl) rfl ?_
    refine WL.on rfl rfl ?_
    refine WL.y (Yl.move rfl) rfl ?_
    refine WL.on rfl rfl ?_
    refine WL.y (Yl.eql rfl rfl) rfl ?_
    refine WL.know (t := 96) (b' := true) rfl (by first | rfl | (simp; done) | (simp; omega)) ?_
    refine WL.y (Yl.pickT rfl rfl) rfl ?_
    refine WL.y (Yl.move rfl) rfl ?_
    refine WL.on rfl rfl ?_
    refine WL.y (Yl.move rfl) rfl ?_
    refine WL.on rfl rfl ?_
    refine WL.y (Yl.eql rfl rfl) rfl ?_
    refine WL.know (t := 100) (b' := true) rfl (by first | rfl | (simp; done) | (simp; omega)) ?_
    refine WL.y (Yl.pickT rfl rfl) rfl ?_
    refine WL.y (Yl.move rfl) rfl ?_
    refine WL.on rfl rfl ?_
    refine WL.y (Yl.move rfl) rfl ?_
    refine WL.on rfl rfl ?_
    refine WL.y (Yl.build rfl (cs := Ru.zero.cells) (fun _ => by kernel_rfl)) rfl ?_
    refine WL.on rfl rfl ?_
    refine WL.callC (xs := [.tmp 103, _, .tmp 104]) (cap := []) rfl rfl en14 (by repeat (first | exact TakeL.nil | (apply TakeL.cons; · repeat (first | exact Take1.head | apply Take1.tail)))) (fun w hw => insNil_any 0 Ru.zero w hw.left.here) rfl ?_
    rintro ⟨⟩ -
    refine WL.on rfl rfl ?_
    refine WL.y (Yl.eql rfl rfl) rfl ?_
    refine WL.know (t := 106) (b' := true) rfl (by first | rfl | (simp; done) | (simp; omega)) ?_
    refine WL.y (Yl.pickT rfl rfl) rfl ?_
    refine WL.y (Yl.move rfl) rfl ?_
    refine WL.on rfl rfl ?_
    refine WL.y (Yl.move rfl) rfl ?_
    refine WL.on rfl rfl ?_
    refine WL.callC (xs := [.tmp 109, _]) (cap := []) rfl rfl en16 (by repeat (first | exact TakeL.nil | (apply TakeL.cons; · repeat (first | exact Take1.head | apply Take1.tail)))) (fun w hw => remNil_any 0 w hw.left.here) rfl ?_
    rintro ⟨⟩ -
    refine WL.on rfl rfl ?_
    refine WL.y (Yl.eql rfl rfl) rfl ?_
    refine WL.know (t := 111) (b' := true) rfl (by first | rfl | (simp; done) | (simp; omega)) ?_
    refine WL.y (Yl.pickT rfl rfl) rfl ?_
    refine WL.y (Yl.move rfl) rfl ?_
    refine WL.on rfl rfl ?_
    refine WL.y (Yl.move rfl) rfl ?_
    refine WL.on rfl rfl ?_
    refine WL.callC (xs := [.tmp 114]) (cap := []) rfl rfl en22 (by repeat (first | exact TakeL.nil | (apply TakeL.cons; · repeat (first | exact Take1.head | apply Take1.tail)))) (fun w hw => tidyNil_any w hw.left.here) rfl ?_
    rintro ⟨⟩ -
    refine WL.on rfl rfl ?_
    refine WL.y (Yl.eql rfl rfl) rfl ?_
    refine WL.know (t := 116) (b' := true) rfl (by first | rfl | (simp; done) | (simp; omega)) ?_
    refine WL.y (Yl.pickT rfl rfl) rfl ?_
    refine WL.y (Yl.move rfl) rfl ?_
    refine WL.on rfl rfl ?_
    refine WL.y (Yl.move rfl) rfl ?_
    refine WL.on rfl rfl ?_
    refine WL.callC (xs := [.tmp 119]) (cap := []) rfl rfl en21 (by repeat (first | exact TakeL.nil | (apply TakeL.cons; · repeat (first | exact Take1.head | apply Take1.tail)))) (fun w hw => lidleNil_any w hw.left.here) rfl ?_
    rintro ⟨a120, c120⟩ -
    refine WL.on rfl rfl ?_
    refine WL.y (Yl.len un49 rfl) rfl ?_
    refine WL.on rfl rfl ?_
    refine WL.y (Yl.eql rfl rfl) rfl ?_
    refine WL.know (t := 122) (b' := true) rfl (by first | rfl | (simp; done) | (simp; omega)) ?_
    refine WL.y (Yl.pickT rfl rfl) rfl ?_
    refine WL.y (Yl.move rfl) rfl ?_
    refine WL.on rfl rfl ?_
    refine WL.y (Yl.move rfl) rfl ?_
    refine WL.on rfl rfl ?_
    refine WL.callC (xs := [.tmp 125]) (cap := []) rfl rfl en24 (by repeat (first | exact TakeL.nil | (apply TakeL.cons; · repeat (first | exact Take1.head | apply Take1.tail)))) (fun w hw => bytesNil_any w hw.left.here) rfl ?_
    rintro ⟨⟩ -
    refine WL.on rfl rfl ?_
    refine WL.y (Yl.len un55 rfl) rfl ?_
    refine WL.on rfl rfl ?_
    refine WL.y (Yl.eql rfl rfl) rfl ?_
    refine WL.know (t := 128) (b' := true) rfl (by first | rfl | (simp; done) | (simp; omega)) ?_
    refine WL.y (Yl.pickT rfl rfl) rfl ?_
    refine WL.sto (Sto.one sz4 rfl rfl (by repeat (first | exact Take1.head | apply Take1.tail)) rfl (by rfl) (by rfl)) (fun _ h => nomatch h) ?_
    refine WL.nil ?_
    refine WC.ret ?_
    repeat (first | (with_reducible refine peelT ?_) | (with_reducible refine peelB ?_) | (with_reducible refine peelTX ?_) | (with_reducible refine peelBX ?_) | (with_reducible refine peelBN ?_) | (with_reducible refine peelBO rfl ?_))
    refine retM.of (.cons (by repeat (first | exact Take1.head | apply Take1.tail)) .nil) ?_
    exact retV1 (.inr rfl) Try.results8 on4 rfl (by repeat (first | exact Take1.head | apply Take1.tail)) fun w' h => ⟨(), trivial, rfl, h.sub (by repeat (first | exact TakeL.nil | (apply TakeL.cons; · repeat (first | exact Take1.head | apply Take1.tail))))⟩
end Go.Proofs.Ytnlibngncicobaa
