/- What is known outright: the walk. -/
import Derived.Test.YtmcdbjbkkejbbaaGreatMerH
namespace Go.Proofs.YtmcdbjbkkejbbaaGreat
open Go Go.RowKit
theorem digsF_by (l : List Rc) : Bytes (digsF l) := by
  intro x hx
  unfold digsF digsN at hx
  obtain ⟨y, hy, hx⟩ := List.mem_flatten.1 hx
  obtain ⟨n, _, rfl⟩ := List.mem_map.1 hy
  exact bdF_by l n x hx
theorem by8 : Bytes (List.replicate 8 0) := fun x hx => by rw [(List.mem_replicate.1 hx).2]; omega
theorem rok2 {x y : Rc} (hx : x.ok) (hy : y.ok) : ROk [x, y] := fun r hr => by
  simp only [List.mem_cons, List.not_mem_nil, or_false] at hr
  rcases hr with rfl | rfl <;> assumption
theorem rok1 {x : Rc} (hx : x.ok) : ROk [x] := fun r hr => by rw [List.mem_singleton.1 hr]; exact hx
theorem k_all : ∀ l ∈ [[kz, kx], [], [ky]], ROk l := by
  intro l hl
  simp only [List.mem_cons, List.not_mem_nil, or_false] at hl
  rcases hl with rfl | rfl | rfl
  · exact rok2 kz_ok kx_ok
  · exact fun r hr => nomatch hr
  · exact rok1 ky_ok
theorem WO.view {c : Cx} {Q : SQ} {env : Env} {ds : List Deferred} {H H' Hs : List Res} {ops : Array Oper} {fuel : Nat} {listed : Array Bool} {i : Nat} (h : ∀ w, OK c.w0 c.S H w → OK c.w0 c.S H' w) (k : WO c ops Hs Q fuel listed env ds H' i) : WO c ops Hs Q fuel listed env ds H i := fun a w ha hw hS => k a w ha (h w hw) hS
theorem OK.recsRd {w0 : World} {S : Pm} {H F : List Res} {w : World} {b n : Nat} {xs : List Rc} {cs : List Value} (h : OK w0 S H w) (t : Take1 H (blkR b 33 cs) F) (e : cs = vcs rcV xs) (hG : ROk xs) (hn : xs.length = n) (hl : n ≤ 1000) : OK w0 S (rdR (.slice (some ⟨b, 0, none⟩) n n) 22 xs.length (vcs rcV xs) :: F) w := by
  subst e hn
  exact (h.blkOwn (size := 22) (n := xs.length) t (by unfold maxLen; omega) (vtR.size hG)).readOnly .head
set_option maxRecDepth 100000 in
set_option maxHeartbeats 400000 in
theorem known_any (w : World) (hw : OK w (fpL []) [] w) : Fn Tryz.prog 4 [] [] w (fun _ : Unit => True) (fun _ => .bool true) (fun _ => []) := by
  obtain ⟨X, eX⟩ : ∃ X, X = kx := ⟨_, rfl⟩
  obtain ⟨Y, eY⟩ : ∃ X, X = ky := ⟨_, rfl⟩
  obtain ⟨Z, eZ⟩ : ∃ X, X = kz := ⟨_, rfl⟩
  obtain ⟨V, eV⟩ : ∃ X, X = kw := ⟨_, rfl⟩
  have hX : X.ok := eX ▸ kx_ok
  have hY : Y.ok := eY ▸ ky_ok
  have hZ : Z.ok := eZ ▸ kz_ok
  have hW : V.ok := eV ▸ kw_ok
  have mX : mayB X = true := eX ▸ kx_may
  have mY : mayB Y = true := eY ▸ ky_may
  have mZ : mayB Z = true := eZ ▸ kz_may
  have lX := Rc.cells_len hX.len
  have lY := Rc.cells_len hY.len
  have lZ := Rc.cells_len hZ.len
  have lV := Rc.cells_len hW.len
  have kA : (joinF [] [X, Z]).1 = [Z, X] := by rw [eX, eZ]; exact k_a
  have kC : (joinF [] [Y]).1 = [Y] := by rw [eY]; exact k_b
  have kB : betterF X Y = Y := by rw [eX, eY]; exact k_better
  have kV : viewF (bestF [[Z, X], [], [Y]]) [[Z, X], [], [Y]] = [Z, V] := by rw [eX, eY, eZ, eV]; exact k_view
  have kL : ∀ l ∈ [[Z, X], [], [Y]], ROk l := by rw [eX, eY, eZ]; exact k_all
  have kO : (allB (offL [Z, X] (digsF [Y]))).length ≠ 0 := by rw [eX, eY, eZ]; exact k_off
  obtain ⟨c1, e1⟩ : ∃ c, c = vcs rcV [X, Z] := ⟨_, rfl⟩
  obtain ⟨c2, e2⟩ : ∃ c, c = vcs rcV [Y] := ⟨_, rfl⟩
  obtain ⟨c3, e3⟩ : ∃ c, c = vcs rcV [Z, V] := ⟨_, rfl⟩
  obtain ⟨c4, e4⟩ : ∃ c, c = vcs rcV [X] := ⟨_, rfl⟩
  have hVc : (Y.cells.set 19 (.int .u64 5)).set 21 (.int .u64 65) = V.cells := by rw [eY, eV]; exact Rc.cells_set ky_ok.len 5 65
  refine enterM Tryz.func4 rfl Tryz.ntmps4 rfl hw ?_
  refine WC.seq ?_
  refine WC.region ?_
  refine WL.to (To.alloc (cs := [.bool false]) zr4 rfl) rfl ?_ -- t0
  intro b0
  refine WL.nil ?_
  refine WC.seq ?_
  refine WC.region ?_
  refine WL.y (Yl.build rfl (cs := ints .u8 kx.id) (fun _ => by kernel_rfl)) rfl ?_ -- t17
  refine WL.y (Yl.build rfl (cs := X.cells) (fun _ => by rw [eX]; kernel_rfl)) rfl ?_ -- t18
  refine WL.to (To.alloc (cs := Rc.zero.cells) zr33 rfl) rfl ?_ -- t1
  intro b1
  refine WL.sto (Sto.agg sz33 rfl rfl (by repeat (first | exact Take1.head | apply Take1.tail)) (Rc.ones _) lX (by rfl) (Rc.all (r := Rc.zero) rfl X.cells lX)) (fun _ h => nomatch h) ?_ -- st 1
  refine WL.nil ?_
  refine WC.seq ?_
  refine WC.region ?_
  refine WL.y (Yl.build rfl (cs := ints .u8 ky.id) (fun _ => by kernel_rfl)) rfl ?_ -- t19
  refine WL.y (Yl.build rfl (cs := Y.cells) (fun _ => by rw [eY]; kernel_rfl)) rfl ?_ -- t20
  refine WL.to (To.alloc (cs := Rc.zero.cells) zr33 rfl) rfl ?_ -- t2
  intro b2
  refine WL.sto (Sto.agg sz33 rfl rfl (by repeat (first | exact Take1.head | apply Take1.tail)) (Rc.ones _) lY (by rfl) (Rc.all (r := Rc.zero) rfl Y.cells lY)) (fun _ h => nomatch h) ?_ -- st 2
  refine WL.nil ?_
  refine WC.seq ?_
  refine WC.region ?_
  refine WL.y (Yl.build rfl (cs := ints .u8 kz.id) (fun _ => by kernel_rfl)) rfl ?_ -- t21
  refine WL.y (Yl.build rfl (cs := Z.cells) (fun _ => by rw [eZ]; kernel_rfl)) rfl ?_ -- t22
  refine WL.to (To.alloc (cs := Rc.zero.cells) zr33 rfl) rfl ?_ -- t3
  intro b3
  refine WL.sto (Sto.agg sz33 rfl rfl (by repeat (first | exact Take1.head | apply Take1.tail)) (Rc.ones _) lZ (by rfl) (Rc.all (r := Rc.zero) rfl Z.cells lZ)) (fun _ h => nomatch h) ?_ -- st 3
  refine WL.nil ?_
  refine WC.midE (α := Bt × Bt) (fun y => [(4, .pointer (some ⟨y.1.b, 0, none⟩)), (5, .pointer (some ⟨y.2.b, 0, none⟩))]) (fun y => [blkR b0 4 [.bool false], blkR b1 33 X.cells, blkR b2 33 Y.cells, blkR b3 33 Z.cells, bunR (btR (some y.1)), bunR (btR (some y.2))]) (fun y => y.1.l = [Z, X] ∧ y.2.l = [Y]) ?_ ?_
  · refine WC.drawAny (Hs := [blkR b1 33 X.cells, blkR b2 33 Y.cells, blkR b3 33 Z.cells]) mixed (by kernel_rfl) ⟨_, (by repeat (first | exact TakeL.nil | (apply TakeL.cons; · repeat (first | exact Take1.head | apply Take1.tail))))⟩ ?_
    refine WD.take 0 rfl (by kernel_rfl) (by kernel_rfl) (by kernel_rfl) rfl rfl (Yl.loadN ag33 rfl (by repeat (first | exact Take1.head | apply Take1.tail)) (leB (by rw [lX]; omega)) (Rc.call hX.len)) rfl ?_ -- t23
    refine WD.take 1 rfl (by kernel_rfl) (by kernel_rfl) (by kernel_rfl) rfl rfl (Yl.loadN ag33 rfl (by repeat (first | exact Take1.head | apply Take1.tail)) (leB (by rw [lZ]; omega)) (Rc.call hZ.len)) rfl ?_ -- t24
    refine WD.take 4 rfl (by kernel_rfl) (by kernel_rfl) (by kernel_rfl) rfl rfl (Yl.loadN ag33 rfl (by repeat (first | exact Take1.head | apply Take1.tail)) (leB (by rw [lY]; omega)) (Rc.call hY.len)) rfl ?_ -- t27
    refine WD.two 2 5 (by kernel_rfl) ?_ ?_
    · refine WO.to rfl rfl .no (To.buildSlice (vs := [.agg X.cells.toArray, .agg Z.cells.toArray]) un22 zs33 rfl rfl (by simp [Value.cells, lX, lZ]) (by decide) (by decide)) rfl (fun _ => ⟨_, (by repeat (first | exact TakeL.nil | (apply TakeL.cons; · repeat (first | exact Take1.head | apply Take1.tail))))⟩) ?_ -- t25
      intro b25
      rw [show flat [.agg X.cells.toArray, .agg Z.cells.toArray] = c1 from e1.symm]
      refine WD.two 3 5 (by kernel_rfl) ?_ ?_
      · refine WO.view (fun w h => OK.recsRd (b := b25) (n := 2) (xs := [X, Z]) h (by repeat (first | exact Take1.head | apply Take1.tail)) e1 (rok2 hX hZ) rfl (by decide)) ?_
        refine WO.callC (xs := [.tmp 25]) (cap := []) rfl .no rfl rfl en6 (by repeat (first | exact TakeL.nil | (apply TakeL.cons; · repeat (first | exact Take1.head | apply Take1.tail)))) (fun w hw => ofB_any (.slice (some ⟨b25, 0, none⟩) 2 2) [X, Z] (rok2 hX hZ) (by simp) w hw.left.here) rfl (fun _ => ⟨_, (by repeat (first | exact TakeL.nil | (apply TakeL.cons; · repeat (first | exact Take1.head | apply Take1.tail))))⟩) ?_ -- t26 hailer/hailerlaw36.of
        rintro ⟨ba, aoA, caA⟩ -
        rw [kA]
        dsimp only [bkR, List.cons_append, List.nil_append]
        refine WD.view (fun w h => OK.bunO2 (r := blkR ba 64 [.slice aoA [Z, X].length caA]) (s := ownR (.slice aoA [Z, X].length caA) 33 22 [Z, X].length (vcs rcV [Z, X])) h (by repeat (first | exact TakeL.nil | (apply TakeL.cons; · repeat (first | exact Take1.head | apply Take1.tail))))) ?_
        refine WD.one 5 (by kernel_rfl) ?_
        refine WO.to rfl rfl .no (To.buildSlice (vs := [.agg Y.cells.toArray]) un22 zs33 rfl rfl (by simp [Value.cells, lY]) (by decide) (by decide)) rfl (fun _ => ⟨_, (by repeat (first | exact TakeL.nil | (apply TakeL.cons; · repeat (first | exact Take1.head | apply Take1.tail))))⟩) ?_ -- t28
        intro b28
        rw [show flat [.agg Y.cells.toArray] = c2 from e2.symm]
        refine WD.one 6 (by kernel_rfl) ?_
        refine WO.view (fun w h => OK.recsRd (b := b28) (n := 1) (xs := [Y]) h (by repeat (first | exact Take1.head | apply Take1.tail)) e2 (rok1 hY) rfl (by decide)) ?_
        refine WO.callC (xs := [.tmp 28]) (cap := []) rfl .no rfl rfl en6 (by repeat (first | exact TakeL.nil | (apply TakeL.cons; · repeat (first | exact Take1.head | apply Take1.tail)))) (fun w hw => ofB_any (.slice (some ⟨b28, 0, none⟩) 1 1) [Y] (rok1 hY) (by simp) w hw.left.here) rfl (fun _ => ⟨_, (by repeat (first | exact TakeL.nil | (apply TakeL.cons; · repeat (first | exact Take1.head | apply Take1.tail))))⟩) ?_ -- t29 hailer/hailerlaw36.of
        rintro ⟨bb, aoB, caB⟩ -
        rw [kC]
        dsimp only [bkR, List.cons_append, List.nil_append]
        refine WD.view (fun w h => OK.bunO2 (r := blkR bb 64 [.slice aoB [Y].length caB]) (s := ownR (.slice aoB [Y].length caB) 33 22 [Y].length (vcs rcV [Y])) h (by repeat (first | exact TakeL.nil | (apply TakeL.cons; · repeat (first | exact Take1.head | apply Take1.tail))))) ?_
        refine WD.take 7 rfl (by kernel_rfl) (by kernel_rfl) (by kernel_rfl) rfl rfl (Yl.assign rfl) rfl ?_ -- t4
        refine WD.take 8 rfl (by kernel_rfl) (by kernel_rfl) (by kernel_rfl) rfl rfl (Yl.assign rfl) rfl ?_ -- t5
        refine WD.done (by kernel_rfl) ?_
        exact ⟨rfl, (⟨ba, aoA, caA, [Z, X]⟩, ⟨bb, aoB, caB, [Y]⟩), ⟨rfl, rfl⟩, (by repeat (first | exact Sub.nil | refine Sub.cons rfl ?_)), (by repeat (first | exact Sub.nil | refine Sub.cons rfl ?_)), _, (by repeat (first | exact TakeL.nil | (apply TakeL.cons; · repeat (first | exact Take1.head | apply Take1.tail))))⟩
      · refine WO.to rfl rfl .no (To.buildSlice (vs := [.agg Y.cells.toArray]) un22 zs33 rfl rfl (by simp [Value.cells, lY]) (by decide) (by decide)) rfl (fun _ => ⟨_, (by repeat (first | exact TakeL.nil | (apply TakeL.cons; · repeat (first | exact Take1.head | apply Take1.tail))))⟩) ?_ -- t28
        intro b28
        rw [show flat [.agg Y.cells.toArray] = c2 from e2.symm]
        refine WD.one 3 (by kernel_rfl) ?_
        refine WO.view (fun w h => OK.recsRd (b := b25) (n := 2) (xs := [X, Z]) h (by repeat (first | exact Take1.head | apply Take1.tail)) e1 (rok2 hX hZ) rfl (by decide)) ?_
        refine WO.callC (xs := [.tmp 25]) (cap := []) rfl .no rfl rfl en6 (by repeat (first | exact TakeL.nil | (apply TakeL.cons; · repeat (first | exact Take1.head | apply Take1.tail)))) (fun w hw => ofB_any (.slice (some ⟨b25, 0, none⟩) 2 2) [X, Z] (rok2 hX hZ) (by simp) w hw.left.here) rfl (fun _ => ⟨_, (by repeat (first | exact TakeL.nil | (apply TakeL.cons; · repeat (first | exact Take1.head | apply Take1.tail))))⟩) ?_ -- t26 hailer/hailerlaw36.of
        rintro ⟨ba, aoA, caA⟩ -
        rw [kA]
        dsimp only [bkR, List.cons_append, List.nil_append]
        refine WD.view (fun w h => OK.bunO2 (r := blkR ba 64 [.slice aoA [Z, X].length caA]) (s := ownR (.slice aoA [Z, X].length caA) 33 22 [Z, X].length (vcs rcV [Z, X])) h (by repeat (first | exact TakeL.nil | (apply TakeL.cons; · repeat (first | exact Take1.head | apply Take1.tail))))) ?_
        refine WD.one 6 (by kernel_rfl) ?_
        refine WO.view (fun w h => OK.recsRd (b := b28) (n := 1) (xs := [Y]) h (by repeat (first | exact Take1.head | apply Take1.tail)) e2 (rok1 hY) rfl (by decide)) ?_
        refine WO.callC (xs := [.tmp 28]) (cap := []) rfl .no rfl rfl en6 (by repeat (first | exact TakeL.nil | (apply TakeL.cons; · repeat (first | exact Take1.head | apply Take1.tail)))) (fun w hw => ofB_any (.slice (some ⟨b28, 0, none⟩) 1 1) [Y] (rok1 hY) (by simp) w hw.left.here) rfl (fun _ => ⟨_, (by repeat (first | exact TakeL.nil | (apply TakeL.cons; · repeat (first | exact Take1.head | apply Take1.tail))))⟩) ?_ -- t29 hailer/hailerlaw36.of
        rintro ⟨bb, aoB, caB⟩ -
        rw [kC]
        dsimp only [bkR, List.cons_append, List.nil_append]
        refine WD.view (fun w h => OK.bunO2 (r := blkR bb 64 [.slice aoB [Y].length caB]) (s := ownR (.slice aoB [Y].length caB) 33 22 [Y].length (vcs rcV [Y])) h (by repeat (first | exact TakeL.nil | (apply TakeL.cons; · repeat (first | exact Take1.head | apply Take1.tail))))) ?_
        refine WD.take 7 rfl (by kernel_rfl) (by kernel_rfl) (by kernel_rfl) rfl rfl (Yl.assign rfl) rfl ?_ -- t4
        refine WD.take 8 rfl (by kernel_rfl) (by kernel_rfl) (by kernel_rfl) rfl rfl (Yl.assign rfl) rfl ?_ -- t5
        refine WD.done (by kernel_rfl) ?_
        exact ⟨rfl, (⟨ba, aoA, caA, [Z, X]⟩, ⟨bb, aoB, caB, [Y]⟩), ⟨rfl, rfl⟩, (by repeat (first | exact Sub.nil | refine Sub.cons rfl ?_)), (by repeat (first | exact Sub.nil | refine Sub.cons rfl ?_)), _, (by repeat (first | exact TakeL.nil | (apply TakeL.cons; · repeat (first | exact Take1.head | apply Take1.tail))))⟩
    · refine WO.to rfl rfl .no (To.buildSlice (vs := [.agg Y.cells.toArray]) un22 zs33 rfl rfl (by simp [Value.cells, lY]) (by decide) (by decide)) rfl (fun _ => ⟨_, (by repeat (first | exact TakeL.nil | (apply TakeL.cons; · repeat (first | exact Take1.head | apply Take1.tail))))⟩) ?_ -- t28
      intro b28
      rw [show flat [.agg Y.cells.toArray] = c2 from e2.symm]
      refine WD.one 2 (by kernel_rfl) ?_
      refine WO.to rfl rfl .no (To.buildSlice (vs := [.agg X.cells.toArray, .agg Z.cells.toArray]) un22 zs33 rfl rfl (by simp [Value.cells, lX, lZ]) (by decide) (by decide)) rfl (fun _ => ⟨_, (by repeat (first | exact TakeL.nil | (apply TakeL.cons; · repeat (first | exact Take1.head | apply Take1.tail))))⟩) ?_ -- t25
      intro b25
      rw [show flat [.agg X.cells.toArray, .agg Z.cells.toArray] = c1 from e1.symm]
      refine WD.one 3 (by kernel_rfl) ?_
      refine WO.view (fun w h => OK.recsRd (b := b25) (n := 2) (xs := [X, Z]) h (by repeat (first | exact Take1.head | apply Take1.tail)) e1 (rok2 hX hZ) rfl (by decide)) ?_
      refine WO.callC (xs := [.tmp 25]) (cap := []) rfl .no rfl rfl en6 (by repeat (first | exact TakeL.nil | (apply TakeL.cons; · repeat (first | exact Take1.head | apply Take1.tail)))) (fun w hw => ofB_any (.slice (some ⟨b25, 0, none⟩) 2 2) [X, Z] (rok2 hX hZ) (by simp) w hw.left.here) rfl (fun _ => ⟨_, (by repeat (first | exact TakeL.nil | (apply TakeL.cons; · repeat (first | exact Take1.head | apply Take1.tail))))⟩) ?_ -- t26 hailer/hailerlaw36.of
      rintro ⟨ba, aoA, caA⟩ -
      rw [kA]
      dsimp only [bkR, List.cons_append, List.nil_append]
      refine WD.view (fun w h => OK.bunO2 (r := blkR ba 64 [.slice aoA [Z, X].length caA]) (s := ownR (.slice aoA [Z, X].length caA) 33 22 [Z, X].length (vcs rcV [Z, X])) h (by repeat (first | exact TakeL.nil | (apply TakeL.cons; · repeat (first | exact Take1.head | apply Take1.tail))))) ?_
      refine WD.one 6 (by kernel_rfl) ?_
      refine WO.view (fun w h => OK.recsRd (b := b28) (n := 1) (xs := [Y]) h (by repeat (first | exact Take1.head | apply Take1.tail)) e2 (rok1 hY) rfl (by decide)) ?_
      refine WO.callC (xs := [.tmp 28]) (cap := []) rfl .no rfl rfl en6 (by repeat (first | exact TakeL.nil | (apply TakeL.cons; · repeat (first | exact Take1.head | apply Take1.tail)))) (fun w hw => ofB_any (.slice (some ⟨b28, 0, none⟩) 1 1) [Y] (rok1 hY) (by simp) w hw.left.here) rfl (fun _ => ⟨_, (by repeat (first | exact TakeL.nil | (apply TakeL.cons; · repeat (first | exact Take1.head | apply Take1.tail))))⟩) ?_ -- t29 hailer/hailerlaw36.of
      rintro ⟨bb, aoB, caB⟩ -
      rw [kC]
      dsimp only [bkR, List.cons_append, List.nil_append]
      refine WD.view (fun w h => OK.bunO2 (r := blkR bb 64 [.slice aoB [Y].length caB]) (s := ownR (.slice aoB [Y].length caB) 33 22 [Y].length (vcs rcV [Y])) h (by repeat (first | exact TakeL.nil | (apply TakeL.cons; · repeat (first | exact Take1.head | apply Take1.tail))))) ?_
      refine WD.take 7 rfl (by kernel_rfl) (by kernel_rfl) (by kernel_rfl) rfl rfl (Yl.assign rfl) rfl ?_ -- t4
      refine WD.take 8 rfl (by kernel_rfl) (by kernel_rfl) (by kernel_rfl) rfl rfl (Yl.assign rfl) rfl ?_ -- t5
      refine WD.done (by kernel_rfl) ?_
      exact ⟨rfl, (⟨ba, aoA, caA, [Z, X]⟩, ⟨bb, aoB, caB, [Y]⟩), ⟨rfl, rfl⟩, (by repeat (first | exact Sub.nil | refine Sub.cons rfl ?_)), (by repeat (first | exact Sub.nil | refine Sub.cons rfl ?_)), _, (by repeat (first | exact TakeL.nil | (apply TakeL.cons; · repeat (first | exact Take1.head | apply Take1.tail))))⟩
  · rintro ⟨A, B⟩ ⟨hA, hB⟩
    dsimp only at hA hB ⊢
    have hAb : ∀ x ∈ A.l, Go.Proofs.YtmcdbjbkkejbbaaGreat.Bk x := by
      rw [hA]
      intro x hx
      simp only [List.mem_cons, List.not_mem_nil, or_false] at hx
      rcases hx with rfl | rfl
      · exact ⟨hZ, mZ⟩
      · exact ⟨hX, mX⟩
    have hBb : ∀ x ∈ B.l, Go.Proofs.YtmcdbjbkkejbbaaGreat.Bk x := by
      rw [hB]
      intro x hx
      rw [List.mem_singleton.1 hx]
      exact ⟨hY, mY⟩
    have hAl : A.l.length ≤ 2000 := by rw [hA]; simp
    have hBl : B.l.length ≤ 2000 := by rw [hB]; simp
    refine WC.seq ?_
    refine WC.seq ?_
    refine WC.drawAny (Hs := [blkR b1 33 X.cells, blkR b2 33 Y.cells]) mixed (by kernel_rfl) ⟨_, (by repeat (first | exact TakeL.nil | (apply TakeL.cons; · repeat (first | exact Take1.head | apply Take1.tail))))⟩ ?_
    refine WD.take 0 rfl (by kernel_rfl) (by kernel_rfl) (by kernel_rfl) rfl rfl (Yl.move rfl) rfl ?_ -- t30
    refine WD.take 1 rfl (by kernel_rfl) (by kernel_rfl) (by kernel_rfl) rfl rfl (Yl.nilEq un26 rfl rfl) rfl ?_ -- t31
    refine WD.know (t := 31) (b' := false) rfl (by first | rfl | (simp; done) | (simp; omega)) ?_
    refine WD.take 2 rfl (by kernel_rfl) (by kernel_rfl) (by kernel_rfl) rfl rfl (Yl.move rfl) rfl ?_ -- t32
    refine WD.know (t := 32) (b' := false) rfl (by first | rfl | (simp; done) | (simp; omega)) ?_
    refine WD.takeOn 3 rfl (by kernel_rfl) (by kernel_rfl) (by kernel_rfl) rfl rfl rfl rfl (Yl.move rfl) rfl ?_ -- t33
    refine WD.takeOn 4 rfl (by kernel_rfl) (by kernel_rfl) (by kernel_rfl) rfl rfl rfl rfl (Yl.nilEq un26 rfl rfl) rfl ?_ -- t34
    refine WD.know (t := 34) (b' := false) rfl (by first | rfl | (simp; done) | (simp; omega)) ?_
    refine WD.take 5 rfl (by kernel_rfl) (by kernel_rfl) (by kernel_rfl) rfl rfl (Yl.pickF rfl rfl) rfl ?_ -- t35
    refine WD.know (t := 35) (b' := false) rfl (by first | rfl | (simp; done) | (simp; omega)) ?_
    refine WD.take 6 rfl (by kernel_rfl) (by kernel_rfl) (by kernel_rfl) rfl rfl (Yl.move rfl) rfl ?_ -- t36
    refine WD.know (t := 36) (b' := false) rfl (by first | rfl | (simp; done) | (simp; omega)) ?_
    refine WD.takeOn 7 rfl (by kernel_rfl) (by kernel_rfl) (by kernel_rfl) rfl rfl rfl rfl (Yl.loadN ag33 rfl (by repeat (first | exact Take1.head | apply Take1.tail)) (leB (by rw [lX]; omega)) (Rc.call hX.len)) rfl ?_ -- t37
    refine WD.takeOn 8 rfl (by kernel_rfl) (by kernel_rfl) (by kernel_rfl) rfl rfl rfl rfl (Yl.loadN ag33 rfl (by repeat (first | exact Take1.head | apply Take1.tail)) (leB (by rw [lY]; omega)) (Rc.call hY.len)) rfl ?_ -- t38
    refine WD.takeOn 10 rfl (by kernel_rfl) (by kernel_rfl) (by kernel_rfl) rfl rfl rfl rfl (Yl.loadN ag33 rfl (by repeat (first | exact Take1.head | apply Take1.tail)) (leB (by rw [lY]; omega)) (Rc.call hY.len)) rfl ?_ -- t40
    refine WD.one 9 (by kernel_rfl) ?_
    refine WO.callC (xs := [.tmp 37, .tmp 38]) (cap := []) rfl (.on rfl rfl) rfl rfl en18 (by repeat (first | exact TakeL.nil | (apply TakeL.cons; · repeat (first | exact Take1.head | apply Take1.tail)))) (fun w hw => better_any X Y ⟨hX, mX⟩ ⟨hY, mY⟩ w hw.left.here) rfl (fun _ => ⟨_, (by repeat (first | exact TakeL.nil | (apply TakeL.cons; · repeat (first | exact Take1.head | apply Take1.tail))))⟩) ?_ -- t39 hailer/merge.Better
    rintro ⟨⟩ -
    rw [kB]
    refine WD.takeOn 11 rfl (by kernel_rfl) (by kernel_rfl) (by kernel_rfl) rfl rfl rfl rfl (Yl.neA (xs := Y.cells) (ys := Y.cells) flRec rfl rfl hY.fits hY.fits) rfl ?_
    refine WD.know (t := 41) (b' := false) rfl (by rw [Rc.eqV hY hY]; simp) ?_
    refine WD.take 12 rfl (by kernel_rfl) (by kernel_rfl) (by kernel_rfl) rfl rfl (Yl.pickF rfl rfl) rfl ?_ -- t42
    refine WD.know (t := 42) (b' := false) rfl (by first | rfl | (simp; done) | (simp; omega)) ?_
    refine WD.take 13 rfl (by kernel_rfl) (by kernel_rfl) (by kernel_rfl) rfl rfl (Yl.move rfl) rfl ?_ -- t43
    refine WD.know (t := 43) (b' := false) rfl (by first | rfl | (simp; done) | (simp; omega)) ?_
    refine WD.takeOn 14 rfl (by kernel_rfl) (by kernel_rfl) (by kernel_rfl) rfl rfl rfl rfl (Yl.move rfl) rfl ?_ -- t44
    refine WD.one 15 (by kernel_rfl) ?_
    refine WO.view (fun w h => h.dup (r := bunR (btR (some A))) (by repeat (first | exact Take1.head | apply Take1.tail)) (fun _ h => h)) ?_
    refine WO.callC (xs := [.tmp 44]) (cap := []) rfl (.on rfl rfl) rfl rfl en19 (by repeat (first | exact TakeL.nil | (apply TakeL.cons; · repeat (first | exact Take1.head | apply Take1.tail)))) (fun w hw => lenP_any A w hw.left.here) rfl (fun _ => ⟨_, (by repeat (first | exact TakeL.nil | (apply TakeL.cons; · repeat (first | exact Take1.head | apply Take1.tail))))⟩) ?_ -- t45 (*hailer/merge.Book).Len
    rintro ⟨⟩ -
    dsimp only [List.cons_append, List.nil_append]
    refine WD.takeOn 16 rfl (by kernel_rfl) (by kernel_rfl) (by kernel_rfl) rfl rfl rfl rfl (Yl.neq rfl rfl) rfl ?_ -- t46
    refine WD.know (t := 46) (b' := false) rfl (by rw [hA]; rfl) ?_
    refine WD.take 17 rfl (by kernel_rfl) (by kernel_rfl) (by kernel_rfl) rfl rfl (Yl.pickF rfl rfl) rfl ?_ -- t47
    refine WD.know (t := 47) (b' := false) rfl (by first | rfl | (simp; done) | (simp; omega)) ?_
    refine WD.take 18 rfl (by kernel_rfl) (by kernel_rfl) (by kernel_rfl) rfl rfl (Yl.move rfl) rfl ?_ -- t48
    refine WD.know (t := 48) (b' := false) rfl (by first | rfl | (simp; done) | (simp; omega)) ?_
    refine WD.takeOn 19 rfl (by kernel_rfl) (by kernel_rfl) (by kernel_rfl) rfl rfl rfl rfl (Yl.move rfl) rfl ?_ -- t49
    refine WD.takeOn 20 rfl (by kernel_rfl) (by kernel_rfl) (by kernel_rfl) rfl rfl rfl rfl (Yl.move rfl) rfl ?_ -- t50
    refine WD.one 21 (by kernel_rfl) ?_
    refine WO.view (fun w h => h.dup (r := bunR (btR (some A))) (by repeat (first | exact Take1.head | apply Take1.tail)) (fun _ h => h)) ?_
    refine WO.callC (xs := [.tmp 50]) (cap := []) rfl (.on rfl rfl) rfl rfl en13 (by repeat (first | exact TakeL.nil | (apply TakeL.cons; · repeat (first | exact Take1.head | apply Take1.tail)))) (fun w hw => digestsP_any A hAb hAl w hw.left.here) rfl (fun _ => ⟨_, (by repeat (first | exact TakeL.nil | (apply TakeL.cons; · repeat (first | exact Take1.head | apply Take1.tail))))⟩) ?_ -- t51 (*hailer/merge.Book).Digests
    rintro ⟨⟩ -
    dsimp only [List.cons_append, List.nil_append]
    refine WD.one 22 (by kernel_rfl) ?_
    refine WO.view (fun w h => h.dup (r := bunR (btR (some A))) (by repeat (first | exact Take1.head | apply Take1.tail)) (fun _ h => h)) ?_
    refine WO.callC (xs := [.tmp 49, .tmp 51]) (cap := []) rfl (.on rfl rfl) rfl rfl en12 (by repeat (first | exact TakeL.nil | (apply TakeL.cons; · repeat (first | exact Take1.head | apply Take1.tail)))) (fun w hw => offerP_any A (digsF A.l) (digsF_len _) (digsF_by _) hAb hAl w hw.left.here) rfl (fun _ => ⟨_, (by repeat (first | exact TakeL.nil | (apply TakeL.cons; · repeat (first | exact Take1.head | apply Take1.tail))))⟩) ?_ -- t52 (*hailer/merge.Book).Offer
    rintro ⟨a52, c52⟩ -
    dsimp only [List.cons_append, List.nil_append]
    refine WD.takeOn 23 rfl (by kernel_rfl) (by kernel_rfl) (by kernel_rfl) rfl rfl rfl rfl (Yl.len un23 rfl) rfl ?_ -- t53
    refine WD.takeOn 24 rfl (by kernel_rfl) (by kernel_rfl) (by kernel_rfl) rfl rfl rfl rfl (Yl.neq rfl rfl) rfl ?_ -- t54
    refine WD.know (t := 54) (b' := false) rfl (by rw [k_own A.l (fun x hx => (hAb x hx).ok)]; rfl) ?_
    refine WD.take 25 rfl (by kernel_rfl) (by kernel_rfl) (by kernel_rfl) rfl rfl (Yl.pickF rfl rfl) rfl ?_ -- t55
    refine WD.know (t := 55) (b' := false) rfl (by first | rfl | (simp; done) | (simp; omega)) ?_
    refine WD.take 26 rfl (by kernel_rfl) (by kernel_rfl) (by kernel_rfl) rfl rfl (Yl.move rfl) rfl ?_ -- t56
    refine WD.know (t := 56) (b' := false) rfl (by first | rfl | (simp; done) | (simp; omega)) ?_
    refine WD.takeOn 27 rfl (by kernel_rfl) (by kernel_rfl) (by kernel_rfl) rfl rfl rfl rfl (Yl.move rfl) rfl ?_ -- t57
    refine WD.takeOn 28 rfl (by kernel_rfl) (by kernel_rfl) (by kernel_rfl) rfl rfl rfl rfl (Yl.move rfl) rfl ?_ -- t58
    refine WD.one 29 (by kernel_rfl) ?_
    refine WO.view (fun w h => h.dup (r := bunR (btR (some B))) (by repeat (first | exact Take1.head | apply Take1.tail)) (fun _ h => h)) ?_
    refine WO.callC (xs := [.tmp 58]) (cap := []) rfl (.on rfl rfl) rfl rfl en13 (by repeat (first | exact TakeL.nil | (apply TakeL.cons; · repeat (first | exact Take1.head | apply Take1.tail)))) (fun w hw => digestsP_any B hBb hBl w hw.left.here) rfl (fun _ => ⟨_, (by repeat (first | exact TakeL.nil | (apply TakeL.cons; · repeat (first | exact Take1.head | apply Take1.tail))))⟩) ?_ -- t59 (*hailer/merge.Book).Digests
    rintro ⟨⟩ -
    dsimp only [List.cons_append, List.nil_append]
    refine WD.one 30 (by kernel_rfl) ?_
    refine WO.view (fun w h => h.dup (r := bunR (btR (some A))) (by repeat (first | exact Take1.head | apply Take1.tail)) (fun _ h => h)) ?_
    refine WO.callC (xs := [.tmp 57, .tmp 59]) (cap := []) rfl (.on rfl rfl) rfl rfl en12 (by repeat (first | exact TakeL.nil | (apply TakeL.cons; · repeat (first | exact Take1.head | apply Take1.tail)))) (fun w hw => offerP_any A (digsF B.l) (digsF_len _) (digsF_by _) hAb hAl w hw.left.here) rfl (fun _ => ⟨_, (by repeat (first | exact TakeL.nil | (apply TakeL.cons; · repeat (first | exact Take1.head | apply Take1.tail))))⟩) ?_ -- t60 (*hailer/merge.Book).Offer
    rintro ⟨a60, c60⟩ -
    dsimp only [List.cons_append, List.nil_append]
    refine WD.takeOn 31 rfl (by kernel_rfl) (by kernel_rfl) (by kernel_rfl) rfl rfl rfl rfl (Yl.len un23 rfl) rfl ?_ -- t61
    refine WD.takeOn 32 rfl (by kernel_rfl) (by kernel_rfl) (by kernel_rfl) rfl rfl rfl rfl (Yl.eql rfl rfl) rfl ?_ -- t62
    refine WD.know (t := 62) (b' := false) rfl (by rw [hA, hB]; exact decide_eq_false (by have := kO; omega)) ?_
    refine WD.take 33 rfl (by kernel_rfl) (by kernel_rfl) (by kernel_rfl) rfl rfl (Yl.pickF rfl rfl) rfl ?_ -- t63
    refine WD.know (t := 63) (b' := false) rfl (by first | rfl | (simp; done) | (simp; omega)) ?_
    refine WD.done (by kernel_rfl) ?_
    refine WC.condF rfl (by first | rfl | (simp; done) | (simp; omega)) ?_
    refine WC.skip ?_
    refine WC.seq ?_
    refine WC.region ?_
    refine WL.y (Yl.move rfl) rfl ?_ -- t64
    refine WL.y (Yl.move rfl) rfl ?_ -- t65
    refine WL.to (To.buildSlice (vs := [.pointer (some ⟨A.b, 0, none⟩), .pointer none, .pointer (some ⟨B.b, 0, none⟩)]) un85 zs26 rfl rfl (by simp [Value.cells]) (by decide) (by decide)) rfl ?_ -- t66
    intro b66
    refine WL.view (fun w h => (h.blkOwn (b := b66) (size := 1) (n := 3) (by repeat (first | exact Take1.head | apply Take1.tail)) (by unfold maxLen; omega) rfl).readOnly .head) ?_
    refine WL.view (fun w h => h.dup (r := bunR (btR (some A))) (by repeat (first | exact Take1.head | apply Take1.tail)) (fun _ h => h)) ?_
    refine WL.view (fun w h => h.dup (r := bunR (btR (some B))) (by repeat (first | exact Take1.head | apply Take1.tail)) (fun _ h => h)) ?_
    refine WL.view (fun w h => h.bun2 (A := btR (some A)) (B := btR (some B)) (by repeat (first | exact TakeL.nil | (apply TakeL.cons; · repeat (first | exact Take1.head | apply Take1.tail))))) ?_
    refine WL.callC (xs := [.tmp 66]) (cap := []) rfl rfl en20 (by repeat (first | exact TakeL.nil | (apply TakeL.cons; · repeat (first | exact Take1.head | apply Take1.tail)))) (fun w hw => view_any (.slice (some ⟨b66, 0, none⟩) 3 3) [some A, none, some B] [[Z, X], [], [Y]] (by simp [btL, hA, hB]) kL (by simp) (by simp) w hw.left.here) rfl ?_ -- t67 hailer/merge.View
    rintro ⟨a67, c67⟩ -
    rw [kV]
    dsimp only [List.cons_append, List.nil_append]
    refine WL.y (Yl.assign rfl) rfl ?_ -- t6
    refine WL.nil ?_
    refine WC.seq ?_
    refine WC.region ?_
    refine WL.y (Yl.loadN ag33 rfl (by repeat (first | exact Take1.head | apply Take1.tail)) (leB (by rw [lY]; omega)) (Rc.call hY.len)) rfl ?_ -- t68
    refine WL.to (To.alloc (cs := Rc.zero.cells) zr33 rfl) rfl ?_ -- t7
    intro b7
    refine WL.sto (Sto.agg sz33 rfl rfl (by repeat (first | exact Take1.head | apply Take1.tail)) (Rc.ones _) lY (by rfl) (Rc.all (r := Rc.zero) rfl Y.cells lY)) (fun _ h => nomatch h) ?_ -- st 5
    refine WL.nil ?_
    refine WC.seq ?_
    refine WC.region ?_
    refine WL.y (Yl.field fo33_4 rfl) rfl ?_ -- t69
    refine WL.sto (Sto.one sz31 rfl rfl (by repeat (first | exact Take1.head | apply Take1.tail)) rfl (leB (show 20 ≤ _ by rw [lY]; omega)) (by rfl)) (fun _ h => nomatch h) ?_
    refine WL.y (Yl.field fo33_6 rfl) rfl ?_ -- t70
    refine WL.sto (Sto.one sz31 rfl rfl (by repeat (first | exact Take1.head | apply Take1.tail)) rfl (leB (show 22 ≤ _ by rw [List.length_set, lY]; omega)) (by rfl)) (fun _ h => nomatch h) ?_
    refine WL.nil ?_
    refine WC.seq ?_
    refine WC.seq ?_
    refine WC.region ?_
    refine WL.y (Yl.move rfl) rfl ?_ -- t71
    refine WL.y (Yl.loadN ag33 rfl (by repeat (first | exact Take1.head | apply Take1.tail)) (leB (by rw [lZ]; omega)) (Rc.call hZ.len)) rfl ?_ -- t72
    refine WL.y (Yl.loadN ag33 rfl (by repeat (first | exact Take1.head | apply Take1.tail)) (leB (by rw [List.length_set, List.length_set, lY]; omega)) (show _ = V.cells by rw [List.drop_zero, show ((Y.cells.set (0 + 19) (.int .u64 5)).set (0 + 21) (.int .u64 65)) = V.cells from hVc, List.take_of_length_le (by rw [lV]; omega)])) rfl ?_ -- t73
    refine WL.to (To.buildSlice (vs := [.agg Z.cells.toArray, .agg V.cells.toArray]) un22 zs33 rfl rfl (by simp [Value.cells, lZ, lV]) (by decide) (by decide)) rfl ?_ -- t74
    intro b74
    rw [show flat [.agg Z.cells.toArray, .agg V.cells.toArray] = c3 from e3.symm]
    refine WL.callC (xs := [.tmp 71, .tmp 74]) (cap := []) rfl rfl en16 (by repeat (first | exact TakeL.nil | (apply TakeL.cons; · repeat (first | exact Take1.head | apply Take1.tail)))) (fun w hw => equalR_any (.slice a67 [Z, V].length c67) (.slice (some ⟨b74, 0, none⟩) 2 2) [Z, V] [Z, V] (rok2 hZ hW) (rok2 hZ hW) (by simp) w (hw.src (A := []) (r := ownR (.slice a67 [Z, V].length c67) 33 22 [Z, V].length (vcs rcV [Z, V])) RdOf.own (by repeat (first | exact Take1.head | apply Take1.tail))) (hw.src (A := []) (RdOf.blk (size := 22) (n := 2) (cs := c3) (Nat.le_refl _) (by unfold maxLen; omega) (by rw [e3, vtR.size (rok2 hZ hW)]; simp) (by rw [List.drop_zero, e3, List.take_of_length_le (by rw [vtR.size (rok2 hZ hW)]; simp)])) (by repeat (first | exact Take1.head | apply Take1.tail))) hw.left.here) rfl ?_ -- t75 slices.Equal[[]hailer/api.Record,hailer/api.Record]
    rintro ⟨⟩ -
    refine WL.know (t := 75) (b' := true) rfl (by first | rfl | (simp; done) | (simp; omega)) ?_
    refine WL.y (Yl.not rfl) rfl ?_ -- t76
    refine WL.know (t := 76) (b' := false) rfl (by first | rfl | (simp; done) | (simp; omega)) ?_
    refine WL.nil ?_
    refine WC.condF rfl (by first | rfl | (simp; done) | (simp; omega)) ?_
    refine WC.skip ?_
    refine WC.seq ?_
    refine WC.region ?_
    refine WL.y (Yl.move rfl) rfl ?_ -- t78
    refine WL.to (To.buildSlice (vs := [.int .u8 1]) un23 zs5 rfl rfl (by simp [Value.cells]) (by decide) (by decide)) rfl ?_ -- t79
    intro b79
    refine WL.view (fun w h => (h.blkOwn (b := b79) (size := 1) (n := 1) (by repeat (first | exact Take1.head | apply Take1.tail)) (by unfold maxLen; omega) rfl).readOnly .head) ?_
    refine WL.callC (xs := [.tmp 78, .tmp 79]) (cap := []) rfl rfl en15 (by repeat (first | exact TakeL.nil | (apply TakeL.cons; · repeat (first | exact Take1.head | apply Take1.tail)))) (fun w hw => acceptBad_any A.b [1] (.slice (some ⟨b79, 0, none⟩) 1 1) (by intro x hx; rw [List.mem_singleton.1 hx]; omega) (by decide) k_one w hw.left.here) rfl ?_ -- t80 (*hailer/merge.Book).Accept
    rintro ⟨⟩ -
    dsimp only [List.cons_append, List.nil_append]
    refine WL.y (Yl.move rfl) rfl ?_ -- t77
    refine WL.y (Yl.extract rfl rfl) rfl ?_ -- t81
    refine WL.y (Yl.extract rfl rfl) rfl ?_ -- t82
    refine WL.y (Yl.assign rfl) rfl ?_ -- t8
    refine WL.y (Yl.assign rfl) rfl ?_ -- t9
    refine WL.nil ?_
    refine WC.seq ?_
    refine WC.region ?_
    refine WL.y (Yl.move rfl) rfl ?_ -- t84
    refine WL.y (Yl.build rfl (cs := Rc.zero.cells) (fun _ => by kernel_rfl)) rfl ?_ -- t85
    refine WL.callC (xs := [.tmp 84, .tmp 85]) (cap := []) rfl rfl en21 (by repeat (first | exact TakeL.nil | (apply TakeL.cons; · repeat (first | exact Take1.head | apply Take1.tail)))) (fun w hw => takeBad_any A.b Rc.zero kzero_ok k0_may w hw.left.here) rfl ?_ -- t86 (*hailer/merge.Book).Take
    rintro ⟨⟩ -
    refine WL.y (Yl.move rfl) rfl ?_ -- t83
    refine WL.y (Yl.extract rfl rfl) rfl ?_ -- t87
    refine WL.y (Yl.extract rfl rfl) rfl ?_ -- t88
    refine WL.y (Yl.assign rfl) rfl ?_ -- t10
    refine WL.y (Yl.assign rfl) rfl ?_ -- t11
    refine WL.nil ?_
    refine WC.seq ?_
    refine WC.region ?_
    refine WL.y (Yl.assign rfl) rfl ?_ -- t12
    refine WL.nil ?_
    refine WC.seq ?_
    refine WC.region ?_
    refine WL.y (Yl.move rfl) rfl ?_ -- t90
    refine WL.y (Yl.loadN ag33 rfl (by repeat (first | exact Take1.head | apply Take1.tail)) (leB (by rw [lX]; omega)) (Rc.call hX.len)) rfl ?_ -- t91
    refine WL.callC (xs := [.tmp 90, .tmp 91]) (cap := []) rfl rfl en21 (by repeat (first | exact TakeL.nil | (apply TakeL.cons; · repeat (first | exact Take1.head | apply Take1.tail)))) (fun w hw => takeNil_any X w hw.left.here) rfl ?_ -- t92 (*hailer/merge.Book).Take
    rintro ⟨⟩ -
    refine WL.y (Yl.move rfl) rfl ?_ -- t89
    refine WL.y (Yl.extract rfl rfl) rfl ?_ -- t93
    refine WL.y (Yl.extract rfl rfl) rfl ?_ -- t94
    refine WL.y (Yl.assign rfl) rfl ?_ -- t13
    refine WL.y (Yl.assign rfl) rfl ?_ -- t14
    refine WL.nil ?_
    refine WC.seq ?_
    refine WC.region ?_
    refine WL.y (Yl.move rfl) rfl ?_ -- t96
    refine WL.callC (xs := [.tmp 96, _]) (cap := []) rfl rfl en15 (by repeat (first | exact TakeL.nil | (apply TakeL.cons; · repeat (first | exact Take1.head | apply Take1.tail)))) (fun w hw => acceptNil_any w (.slice none 0 0) hw.left.here) rfl ?_ -- t97 (*hailer/merge.Book).Accept
    rintro ⟨⟩ -
    refine WL.y (Yl.move rfl) rfl ?_ -- t95
    refine WL.y (Yl.extract rfl rfl) rfl ?_ -- t98
    refine WL.y (Yl.extract rfl rfl) rfl ?_ -- t99
    refine WL.y (Yl.assign rfl) rfl ?_ -- t15
    refine WL.y (Yl.assign rfl) rfl ?_ -- t16
    refine WL.nil ?_
    refine WC.seq ?_
    refine WC.seq ?_
    refine WC.region ?_
    refine WL.y (Yl.move rfl) rfl ?_ -- t100
    refine WL.callC (xs := [.tmp 100]) (cap := []) rfl rfl en8 (by repeat (first | exact TakeL.nil | (apply TakeL.cons; · repeat (first | exact Take1.head | apply Take1.tail)))) (fun w hw => allNil_any w hw.left.here) rfl ?_ -- t101 (*hailer/merge.Book).All
    rintro ⟨bn, own⟩ -
    dsimp only [List.cons_append, List.nil_append]
    refine WL.nil ?_
    refine WC.block ?_
    refine WC.range (α := Unit) (xs := ysR []) (fun i s => [blkR b0 4 [.bool false], blkR b1 33 X.cells, bunR (btR (some A))]) (fun _ _ => True) () rfl en52 ysR_size rfl (by repeat (first | exact Take1.head | apply Take1.tail)) trivial (by repeat (first | exact TakeL.nil | (apply TakeL.cons; · repeat (first | exact Take1.head | apply Take1.tail)))) (fun l i x s hx => by simp [ysR] at hx) ?_
    rintro _ D -
    dsimp only [List.cons_append, List.nil_append]
    refine WC.seq ?_
    refine WC.region ?_
    refine WL.y (Yl.move rfl) rfl ?_ -- t103
    refine WL.y (Yl.eql rfl rfl) rfl ?_ -- t104
    refine WL.know (t := 104) (b' := true) rfl (by first | rfl | (simp; done) | (simp; omega)) ?_
    refine WL.y (Yl.move rfl) rfl ?_ -- t105
    refine WL.know (t := 105) (b' := true) rfl (by first | rfl | (simp; done) | (simp; omega)) ?_
    refine WL.on rfl rfl ?_
    refine WL.y (Yl.move rfl) rfl ?_ -- t106
    refine WL.on rfl rfl ?_
    refine WL.y (Yl.eql rfl rfl) rfl ?_ -- t107
    refine WL.know (t := 107) (b' := true) rfl (by first | rfl | (simp; done) | (simp; omega)) ?_
    refine WL.y (Yl.pickT rfl rfl) rfl ?_ -- t108
    refine WL.know (t := 108) (b' := true) rfl (by first | rfl | (simp; done) | (simp; omega)) ?_
    refine WL.y (Yl.move rfl) rfl ?_ -- t109
    refine WL.know (t := 109) (b' := true) rfl (by first | rfl | (simp; done) | (simp; omega)) ?_
    refine WL.on rfl rfl ?_
    refine WL.y (Yl.move rfl) rfl ?_ -- t110
    refine WL.on rfl rfl ?_
    refine WL.y (Yl.eql rfl rfl) rfl ?_ -- t111
    refine WL.know (t := 111) (b' := true) rfl (by first | rfl | (simp; done) | (simp; omega)) ?_
    refine WL.y (Yl.pickT rfl rfl) rfl ?_ -- t112
    refine WL.know (t := 112) (b' := true) rfl (by first | rfl | (simp; done) | (simp; omega)) ?_
    refine WL.y (Yl.move rfl) rfl ?_ -- t113
    refine WL.know (t := 113) (b' := true) rfl (by first | rfl | (simp; done) | (simp; omega)) ?_
    refine WL.on rfl rfl ?_
    refine WL.y (Yl.move rfl) rfl ?_ -- t114
    refine WL.on rfl rfl ?_
    refine WL.y (Yl.eql rfl rfl) rfl ?_ -- t115
    refine WL.know (t := 115) (b' := true) rfl (by first | rfl | (simp; done) | (simp; omega)) ?_
    refine WL.y (Yl.pickT rfl rfl) rfl ?_ -- t116
    refine WL.know (t := 116) (b' := true) rfl (by first | rfl | (simp; done) | (simp; omega)) ?_
    refine WL.y (Yl.move rfl) rfl ?_ -- t117
    refine WL.know (t := 117) (b' := true) rfl (by first | rfl | (simp; done) | (simp; omega)) ?_
    refine WL.on rfl rfl ?_
    refine WL.y (Yl.move rfl) rfl ?_ -- t118
    refine WL.on rfl rfl ?_
    refine WL.callC (xs := [.tmp 118]) (cap := []) rfl rfl en19 (by repeat (first | exact TakeL.nil | (apply TakeL.cons; · repeat (first | exact Take1.head | apply Take1.tail)))) (fun w hw => lenNil_any w hw.left.here) rfl ?_ -- t119 (*hailer/merge.Book).Len
    rintro ⟨⟩ -
    refine WL.on rfl rfl ?_
    refine WL.y (Yl.eql rfl rfl) rfl ?_ -- t120
    refine WL.know (t := 120) (b' := true) rfl (by first | rfl | (simp; done) | (simp; omega)) ?_
    refine WL.y (Yl.pickT rfl rfl) rfl ?_ -- t121
    refine WL.know (t := 121) (b' := true) rfl (by first | rfl | (simp; done) | (simp; omega)) ?_
    refine WL.y (Yl.move rfl) rfl ?_ -- t122
    refine WL.know (t := 122) (b' := true) rfl (by first | rfl | (simp; done) | (simp; omega)) ?_
    refine WL.on rfl rfl ?_
    refine WL.y (Yl.move rfl) rfl ?_ -- t123
    refine WL.on rfl rfl ?_
    refine WL.y (Yl.move rfl) rfl ?_ -- t124
    refine WL.on rfl rfl ?_
    refine WL.view (fun w h => h.dup (r := bunR (btR (some A))) (by repeat (first | exact Take1.head | apply Take1.tail)) (fun _ h => h)) ?_
    refine WL.callC (xs := [.tmp 124]) (cap := []) rfl rfl en13 (by repeat (first | exact TakeL.nil | (apply TakeL.cons; · repeat (first | exact Take1.head | apply Take1.tail)))) (fun w hw => digestsP_any A hAb hAl w hw.left.here) rfl ?_ -- t125 (*hailer/merge.Book).Digests
    rintro ⟨⟩ -
    dsimp only [List.cons_append, List.nil_append]
    refine WL.on rfl rfl ?_
    refine WL.callC (xs := [.tmp 123, .tmp 125]) (cap := []) rfl rfl en12 (by repeat (first | exact TakeL.nil | (apply TakeL.cons; · repeat (first | exact Take1.head | apply Take1.tail)))) (fun w hw => offerNil_any (digsF A.l) (digsF_len _) w hw.left.here) rfl ?_ -- t126 (*hailer/merge.Book).Offer
    rintro ⟨⟩ -
    dsimp only [List.cons_append, List.nil_append]
    refine WL.on rfl rfl ?_
    refine WL.y (Yl.len un23 rfl) rfl ?_ -- t127
    refine WL.on rfl rfl ?_
    refine WL.y (Yl.eql rfl rfl) rfl ?_ -- t128
    refine WL.know (t := 128) (b' := true) rfl (by first | rfl | (simp; done) | (simp; omega)) ?_
    refine WL.y (Yl.pickT rfl rfl) rfl ?_ -- t129
    refine WL.know (t := 129) (b' := true) rfl (by first | rfl | (simp; done) | (simp; omega)) ?_
    refine WL.y (Yl.move rfl) rfl ?_ -- t130
    refine WL.know (t := 130) (b' := true) rfl (by first | rfl | (simp; done) | (simp; omega)) ?_
    refine WL.on rfl rfl ?_
    refine WL.y (Yl.move rfl) rfl ?_ -- t131
    refine WL.on rfl rfl ?_
    refine WL.callC (xs := [.tmp 131]) (cap := []) rfl rfl en22 (by repeat (first | exact TakeL.nil | (apply TakeL.cons; · repeat (first | exact Take1.head | apply Take1.tail)))) (fun w hw => digestNil_any w hw.left.here) rfl ?_ -- t132 (*hailer/merge.Book).Digest
    rintro ⟨⟩ -
    refine WL.on rfl rfl ?_
    refine WL.y (Yl.build rfl (cs := ints .u8 (List.replicate 8 0)) (fun _ => by kernel_rfl)) rfl ?_ -- t133
    refine WL.on rfl rfl ?_
    refine WL.y (Yl.eqA fl8 rfl rfl (fits8 rfl by8) (fits8 rfl by8)) rfl ?_
    refine WL.know (t := 134) (b' := true) rfl (by rw [eqV_ints]; simp) ?_
    refine WL.y (Yl.pickT rfl rfl) rfl ?_ -- t135
    refine WL.know (t := 135) (b' := true) rfl (by first | rfl | (simp; done) | (simp; omega)) ?_
    refine WL.y (Yl.move rfl) rfl ?_ -- t136
    refine WL.know (t := 136) (b' := true) rfl (by first | rfl | (simp; done) | (simp; omega)) ?_
    refine WL.on rfl rfl ?_
    refine WL.y (Yl.move rfl) rfl ?_ -- t137
    refine WL.on rfl rfl ?_
    refine WL.y (Yl.loadN ag33 rfl (by repeat (first | exact Take1.head | apply Take1.tail)) (leB (by rw [lX]; omega)) (Rc.call hX.len)) rfl ?_ -- t138
    refine WL.on rfl rfl ?_
    refine WL.to (To.buildSlice (vs := [.agg X.cells.toArray]) un22 zs33 rfl rfl (by simp [Value.cells, lX]) (by decide) (by decide)) rfl ?_ -- t139
    intro b139
    rw [show flat [.agg X.cells.toArray] = c4 from e4.symm]
    refine WL.on rfl rfl ?_
    refine WL.view (fun w h => OK.recsRd (b := b139) (n := 1) (xs := [X]) h (by repeat (first | exact Take1.head | apply Take1.tail)) e4 (rok1 hX) rfl (by decide)) ?_
    refine WL.callC (xs := [.tmp 139]) (cap := []) rfl rfl en24 (by repeat (first | exact TakeL.nil | (apply TakeL.cons; · repeat (first | exact Take1.head | apply Take1.tail)))) (fun w hw => val_any (.slice (some ⟨b139, 0, none⟩) 1 1) [X] (rok1 hX) (by simp) w hw.left.here) rfl ?_ -- t140 slices.Values[[]hailer/api.Record,hailer/api.Record]
    rintro ⟨y1, own2⟩ -
    dsimp only [List.cons_append, List.nil_append]
    refine WL.on rfl rfl ?_
    refine WL.callC (xs := [.tmp 137, .tmp 140]) (cap := []) rfl rfl en23 (by repeat (first | exact TakeL.nil | (apply TakeL.cons; · repeat (first | exact Take1.head | apply Take1.tail)))) (fun w hw => joinNil_any 52 [.pointer (some ⟨y1, 0, none⟩)] own2 [X] en52 (rok1 hX) w hw.left.here) rfl ?_ -- t141 (*hailer/merge.Book).Join
    rintro ⟨⟩ -
    dsimp only [List.cons_append, List.nil_append]
    refine WL.on rfl rfl ?_
    refine WL.y (Yl.eql rfl rfl) rfl ?_ -- t142
    refine WL.know (t := 142) (b' := true) rfl (by first | rfl | (simp; done) | (simp; omega)) ?_
    refine WL.y (Yl.pickT rfl rfl) rfl ?_ -- t143
    refine WL.know (t := 143) (b' := true) rfl (by first | rfl | (simp; done) | (simp; omega)) ?_
    refine WL.sto (Sto.one sz4 rfl rfl (by repeat (first | exact Take1.head | apply Take1.tail)) rfl (by rfl) (by rfl)) (fun _ h => nomatch h) ?_ -- st 10
    refine WL.nil ?_
    refine WC.ret ?_
    repeat (first | (with_reducible refine peelT ?_) | (with_reducible refine peelB ?_) | (with_reducible refine peelTX ?_) | (with_reducible refine peelBX ?_) | (with_reducible refine peelBN ?_) | (with_reducible refine peelBO rfl ?_))
    refine retM.of (.cons (by repeat (first | exact Take1.head | apply Take1.tail)) .nil) ?_
    exact retV1 (.inr rfl) Tryz.results4 on4 rfl (by repeat (first | exact Take1.head | apply Take1.tail)) fun w' h => ⟨(), trivial, rfl, h.sub (by repeat (first | exact TakeL.nil | (apply TakeL.cons; · repeat (first | exact Take1.head | apply Take1.tail))))⟩
end Go.Proofs.YtmcdbjbkkejbbaaGreat
