/- What the law asks first: the walk. -/
import Derived.Test.YtifhkjcimhhaiaaTerKn
namespace Go.Proofs.Ytifhkjcimhhaiaa
open Go Go.RowKit
theorem retCCC {c : Cx} {fn : Func} {R : Ending → World → Prop} {e : Exit} {env : Env} {H F F2 F3 : List Res} {t T n b u U m b2 s V l b3 : Nat} {T' T2 T3 : TypeId} {cs cs2 cs3 : List Value} (he : e = .normal ∨ e = .ret) (hr : fn.results = #[.cell t T, .cell u U, .cell s V]) (ha : aggB c.P T n = true) (ho : aggB c.P U m = true) (ho3 : aggB c.P V l = true)
    (hv : Env.get env t = some (.pointer (some ⟨b, 0, none⟩))) (hx : Env.get env u = some (.pointer (some ⟨b2, 0, none⟩))) (hy : Env.get env s = some (.pointer (some ⟨b3, 0, none⟩))) (tk : Take1 H (blkR b T' cs) F) (tk2 : Take1 H (blkR b2 T2 cs2) F2) (tk3 : Take1 H (blkR b3 T3 cs3) F3) (hl : cs.length = n) (hl2 : cs2.length = m) (hl3 : cs3.length = l) (h : ∀ w, OK c.w0 c.S H w → R (.returned (.tuple #[.agg cs.toArray, .agg cs2.toArray, .agg cs3.toArray])) w) : retS c fn R e env [] H := by
  refine retG he (fun tmps w ht hw => ?_) h
  have h1 := run_loadVar_agg (P := c.P) ha hl (hw.cells tk)
  have h2 := run_loadVar_agg (P := c.P) ho hl2 (hw.cells tk2)
  have h3 := run_loadVar_agg (P := c.P) ho3 hl3 (hw.cells tk3)
  simp [results, hr, ht t _ hv, ht u _ hx, ht s _ hy, asAddr, h1, h2, h3]
theorem row_any (w : World) (hw : OK w (fpL []) [] w) :
    Fn Try.prog 24 [] [] w (fun _ : Unit => True) (fun _ => .tuple #[tmV (some (atomT 1)), tmV (some (atomT 2)), tmV (some (atomT 3))]) (fun _ => []) := by
  refine enterF Try.func24 rfl Try.ntmps24 rfl hw ?_
  refine WC.seq ?_
  refine WC.region ?_
  refine WL.to (To.alloc (cs := [.string (strOfNums [])]) zr34 rfl) rfl ?_
  intro b0
  refine WL.to (To.alloc (cs := [.string (strOfNums [])]) zr34 rfl) rfl ?_
  intro b1
  refine WL.to (To.alloc (cs := [.string (strOfNums [])]) zr34 rfl) rfl ?_
  intro b2
  refine WL.nil ?_
  refine WC.seq ?_
  refine WC.region ?_
  refine WL.callC (xs := [_]) (cap := []) rfl rfl en14 (by repeat (first | exact TakeL.nil | (apply TakeL.cons; · repeat (first | exact Take1.head | apply Take1.tail)))) (fun w hw => atom_any 1 (by decide) w hw.left.here) rfl ?_
  rintro ⟨⟩ -
  refine WL.callC (xs := [_]) (cap := []) rfl rfl en14 (by repeat (first | exact TakeL.nil | (apply TakeL.cons; · repeat (first | exact Take1.head | apply Take1.tail)))) (fun w hw => atom_any 2 (by decide) w hw.left.here) rfl ?_
  rintro ⟨⟩ -
  refine WL.callC (xs := [_]) (cap := []) rfl rfl en14 (by repeat (first | exact TakeL.nil | (apply TakeL.cons; · repeat (first | exact Take1.head | apply Take1.tail)))) (fun w hw => atom_any 3 (by decide) w hw.left.here) rfl ?_
  rintro ⟨⟩ -
  refine WL.sto (Sto.agg sz34 rfl rfl (by repeat (first | exact Take1.head | apply Take1.tail)) (tm_ones _) rfl (by rfl) (show _ = tmC (some (atomT 1)) from rfl)) (fun _ h => nomatch h) ?_
  refine WL.sto (Sto.agg sz34 rfl rfl (by repeat (first | exact Take1.head | apply Take1.tail)) (tm_ones _) rfl (by rfl) (show _ = tmC (some (atomT 2)) from rfl)) (fun _ h => nomatch h) ?_
  refine WL.sto (Sto.agg sz34 rfl rfl (by repeat (first | exact Take1.head | apply Take1.tail)) (tm_ones _) rfl (by rfl) (show _ = tmC (some (atomT 3)) from rfl)) (fun _ h => nomatch h) ?_
  refine WL.nil ?_
  refine WC.ret ?_
  repeat (first | (with_reducible refine peelT ?_) | (with_reducible refine peelB ?_) | (with_reducible refine peelTX ?_) | (with_reducible refine peelBX ?_) | (with_reducible refine peelBN ?_) | (with_reducible refine peelBO rfl ?_))
  exact retCCC (cs := tmC (some (atomT 1))) (cs2 := tmC (some (atomT 2))) (cs3 := tmC (some (atomT 3))) (.inr rfl) Try.results24 ag34 ag34 ag34 rfl rfl rfl (by repeat (first | exact Take1.head | apply Take1.tail)) (by repeat (first | exact Take1.head | apply Take1.tail)) (by repeat (first | exact Take1.head | apply Take1.tail)) rfl rfl rfl fun w' h => ⟨(), trivial, rfl, h.sub (by repeat (first | exact TakeL.nil | (apply TakeL.cons; · repeat (first | exact Take1.head | apply Take1.tail))))⟩
theorem lenO (t : Tm) : (encO (some t)).length = t.enc.length := rfl
theorem lmk {t : Tm} (h : t.ok ∧ t.enc.length ≤ 100) : LmT (some t) := ⟨fun s hs => by cases hs; exact h.1, Nat.le_trans h.2 (by decide)⟩
theorem mpg_of {m : MpT} (h : ∀ p ∈ m, LmT p.1 ∧ p.1 ≠ none) : MpG m := fun p hp => (h p hp).1.g
set_option maxRecDepth 100000 in
set_option maxHeartbeats 3200000 in
theorem known_any (w : World) (hw : OK w (fpL []) [] w) : Fn Try.prog 6 [] [] w (fun _ : Unit => True) (fun _ => .bool true) (fun _ => []) := by
  have oN : OkO none := fun s h => nomatch h
  have lenE : ∀ t : Tm, t.enc = encO (some t) := fun _ => rfl
  obtain ⟨A, B, K, SK, PA, H1, S2, UA, UB, SH, H7, PB, F⟩ := kf_some
  have zA := F.ok A (by simp)
  have oA : OkO (some A) := fun s h => by cases h; exact zA.1
  have lA := zA.2
  have zB := F.ok B (by simp)
  have oB : OkO (some B) := fun s h => by cases h; exact zB.1
  have lB := zB.2
  have zK := F.ok K (by simp)
  have oK : OkO (some K) := fun s h => by cases h; exact zK.1
  have lK := zK.2
  have zSK := F.ok SK (by simp)
  have oSK : OkO (some SK) := fun s h => by cases h; exact zSK.1
  have lSK := zSK.2
  have zPA := F.ok PA (by simp)
  have oPA : OkO (some PA) := fun s h => by cases h; exact zPA.1
  have lPA := zPA.2
  have zH1 := F.ok H1 (by simp)
  have oH1 : OkO (some H1) := fun s h => by cases h; exact zH1.1
  have lH1 := zH1.2
  have zS2 := F.ok S2 (by simp)
  have oS2 : OkO (some S2) := fun s h => by cases h; exact zS2.1
  have lS2 := zS2.2
  have zUA := F.ok UA (by simp)
  have oUA : OkO (some UA) := fun s h => by cases h; exact zUA.1
  have lUA := zUA.2
  have zUB := F.ok UB (by simp)
  have oUB : OkO (some UB) := fun s h => by cases h; exact zUB.1
  have lUB := zUB.2
  have zSH := F.ok SH (by simp)
  have oSH : OkO (some SH) := fun s h => by cases h; exact zSH.1
  have lSH := zSH.2
  have zH7 := F.ok H7 (by simp)
  have oH7 : OkO (some H7) := fun s h => by cases h; exact zH7.1
  have lH7 := zH7.2
  have zPB := F.ok PB (by simp)
  have oPB : OkO (some PB) := fun s h => by cases h; exact zPB.1
  have lPB := zPB.2
  refine enterF Try.func6 rfl Try.ntmps6 rfl hw ?_
  refine WC.seq ?_
  refine WC.region ?_
  refine WL.y (Yl.assign rfl) rfl ?_
  refine WL.nil ?_
  refine WC.seq ?_
  refine WC.region ?_
  refine WL.callC (xs := []) (cap := []) rfl rfl en24 (by repeat (first | exact TakeL.nil | (apply TakeL.cons; · repeat (first | exact Take1.head | apply Take1.tail)))) (fun w hw => row_any w hw.left.here) rfl ?_
  rintro ⟨⟩ -
  rw [F.a1, F.a2, F.a3]
  refine WL.y (Yl.move rfl) rfl ?_
  refine WL.y (Yl.extract rfl rfl) rfl ?_
  refine WL.y (Yl.extract rfl rfl) rfl ?_
  refine WL.y (Yl.extract rfl rfl) rfl ?_
  refine WL.to (To.alloc (cs := [.string (strOfNums [])]) zr34 rfl) rfl ?_
  intro b1
  refine WL.to (To.alloc (cs := [.string (strOfNums [])]) zr34 rfl) rfl ?_
  intro b2
  refine WL.to (To.alloc (cs := [.string (strOfNums [])]) zr34 rfl) rfl ?_
  intro b3
  refine WL.sto (Sto.agg sz34 rfl rfl (by repeat (first | exact Take1.head | apply Take1.tail)) (tm_ones _) rfl (by rfl) (show _ = tmC (some A) from rfl)) (fun _ h => nomatch h) ?_
  refine WL.sto (Sto.agg sz34 rfl rfl (by repeat (first | exact Take1.head | apply Take1.tail)) (tm_ones _) rfl (by rfl) (show _ = tmC (some B) from rfl)) (fun _ h => nomatch h) ?_
  refine WL.sto (Sto.agg sz34 rfl rfl (by repeat (first | exact Take1.head | apply Take1.tail)) (tm_ones _) rfl (by rfl) (show _ = tmC (some K) from rfl)) (fun _ h => nomatch h) ?_
  refine WL.nil ?_
  refine WC.seq ?_
  refine WC.drawAny (Hs := [blkR b1 34 (tmC (some A)), blkR b2 34 (tmC (some B)), blkR b3 34 (tmC (some K))]) mixed (by kernel_rfl) ⟨_, (by repeat (first | exact TakeL.nil | (apply TakeL.cons; · repeat (first | exact Take1.head | apply Take1.tail))))⟩ ?_
  refine WD.take 0 rfl (by kernel_rfl) (by kernel_rfl) (by kernel_rfl) rfl rfl (Yl.loadN ag34 rfl (by repeat (first | exact Take1.head | apply Take1.tail)) (by rfl) (show _ = tmC (some A) from rfl)) rfl ?_
  refine WD.take 1 rfl (by kernel_rfl) (by kernel_rfl) (by kernel_rfl) rfl rfl (Yl.loadN ag34 rfl (by repeat (first | exact Take1.head | apply Take1.tail)) (by rfl) (show _ = tmC (some K) from rfl)) rfl ?_
  refine WD.take 2 rfl (by kernel_rfl) (by kernel_rfl) (by kernel_rfl) rfl rfl (Yl.loadN ag34 rfl (by repeat (first | exact Take1.head | apply Take1.tail)) (by rfl) (show _ = tmC (some B) from rfl)) rfl ?_
  refine WD.take 5 rfl (by kernel_rfl) (by kernel_rfl) (by kernel_rfl) rfl rfl (Yl.loadN ag34 rfl (by repeat (first | exact Take1.head | apply Take1.tail)) (by rfl) (show _ = tmC (some K) from rfl)) rfl ?_
  refine WD.one 3 (by kernel_rfl) ?_
  refine WO.callC (xs := [.tmp 31, .tmp 32]) (cap := []) rfl .no rfl rfl en15 (by repeat (first | exact TakeL.nil | (apply TakeL.cons; · repeat (first | exact Take1.head | apply Take1.tail)))) (fun w hw => sealed_any (some K) (some B) oK oB (show K.enc.length + B.enc.length ≤ _ by omega) w hw.left.here) rfl (fun _ => ⟨_, (by repeat (first | exact TakeL.nil | (apply TakeL.cons; · repeat (first | exact Take1.head | apply Take1.tail))))⟩) ?_
  rintro ⟨⟩ -
  rw [F.e1]
  refine WD.one 4 (by kernel_rfl) ?_
  refine WO.callC (xs := [.tmp 30, .tmp 33]) (cap := []) rfl .no rfl rfl en20 (by repeat (first | exact TakeL.nil | (apply TakeL.cons; · repeat (first | exact Take1.head | apply Take1.tail)))) (fun w hw => pair_any (some A) (some SK) oA oSK (show A.enc.length + SK.enc.length ≤ _ by omega) w hw.left.here) rfl (fun _ => ⟨_, (by repeat (first | exact TakeL.nil | (apply TakeL.cons; · repeat (first | exact Take1.head | apply Take1.tail))))⟩) ?_
  rintro ⟨⟩ -
  rw [F.e2]
  refine WD.one 6 (by kernel_rfl) ?_
  refine WO.to rfl rfl .no (To.buildSlice (vs := [tmV (some PA), tmV (some K)]) un25 zs34 rfl rfl (by simp [Value.cells, tmV, tmC]) (by decide) (by decide)) rfl (fun _ => ⟨_, (by repeat (first | exact TakeL.nil | (apply TakeL.cons; · repeat (first | exact Take1.head | apply Take1.tail))))⟩) ?_
  intro b36
  rw [show flat [tmV (some PA), tmV (some K)] = vcs tmV [some PA, some K] from rfl]
  refine WD.one 7 (by kernel_rfl) ?_
  refine WO.callC (xs := [.tmp 36]) (cap := []) rfl .no rfl rfl en13 (by repeat (first | exact TakeL.nil | (apply TakeL.cons; · repeat (first | exact Take1.head | apply Take1.tail)))) (fun w hw => close_any [some PA, some K] (by intro o ho; simp only [List.mem_cons, List.not_mem_nil, or_false] at ho; rcases ho with rfl | rfl <;> apply lmk <;> assumption) (by simp only [wLs, wO, List.map_cons, List.map_nil, List.sum_cons, List.sum_nil, lenO]; omega) _ w (hw.src (A := []) (RdOf.blk (size := 1) (n := 2) (cs := vcs tmV [some PA, some K]) (cs' := vcs tmV [some PA, some K]) (Nat.le_refl _) (by unfold maxLen; omega) (by simp [vcs, tmV, tmC, flat, Value.cells]) rfl) (by repeat (first | exact Take1.head | apply Take1.tail))) hw.left.here) rfl (fun _ => ⟨_, (by repeat (first | exact TakeL.nil | (apply TakeL.cons; · repeat (first | exact Take1.head | apply Take1.tail))))⟩) ?_
  rintro ⟨k1, n1, m1⟩ ⟨q1, v1⟩
  dsimp only [List.cons_append, List.nil_append] at q1 v1 ⊢
  obtain ⟨c1a, c1b, c1h⟩ := F.r1 m1 q1
  have v1g := mpg_of v1
  refine WD.take 8 rfl (by kernel_rfl) (by kernel_rfl) (by kernel_rfl) rfl rfl (Yl.assign rfl) rfl ?_
  refine WD.done (by kernel_rfl) ?_
  refine WC.seq ?_
  refine WC.drawAny (Hs := [blkR b1 34 (tmC (some A)), blkR b2 34 (tmC (some B)), blkR b3 34 (tmC (some K))]) mixed (by kernel_rfl) ⟨_, (by repeat (first | exact TakeL.nil | (apply TakeL.cons; · repeat (first | exact Take1.head | apply Take1.tail))))⟩ ?_
  refine WD.take 0 rfl (by kernel_rfl) (by kernel_rfl) (by kernel_rfl) rfl rfl (Yl.loadN ag34 rfl (by repeat (first | exact Take1.head | apply Take1.tail)) (by rfl) (show _ = tmC (some K) from rfl)) rfl ?_
  refine WD.take 3 rfl (by kernel_rfl) (by kernel_rfl) (by kernel_rfl) rfl rfl (Yl.loadN ag34 rfl (by repeat (first | exact Take1.head | apply Take1.tail)) (by rfl) (show _ = tmC (some B) from rfl)) rfl ?_
  refine WD.take 5 rfl (by kernel_rfl) (by kernel_rfl) (by kernel_rfl) rfl rfl (Yl.loadN ag34 rfl (by repeat (first | exact Take1.head | apply Take1.tail)) (by rfl) (show _ = tmC (some A) from rfl)) rfl ?_
  refine WD.one 1 (by kernel_rfl) ?_
  refine WO.to rfl rfl .no (To.buildSlice (vs := [tmV (some K)]) un25 zs34 rfl rfl (by simp [Value.cells, tmV, tmC]) (by decide) (by decide)) rfl (fun _ => ⟨_, (by repeat (first | exact TakeL.nil | (apply TakeL.cons; · repeat (first | exact Take1.head | apply Take1.tail))))⟩) ?_
  intro b39
  rw [show flat [tmV (some K)] = vcs tmV [some K] from rfl]
  refine WD.one 2 (by kernel_rfl) ?_
  refine WO.callC (xs := [_, .tmp 39]) (cap := []) rfl .no rfl rfl en16 (by repeat (first | exact TakeL.nil | (apply TakeL.cons; · repeat (first | exact Take1.head | apply Take1.tail)))) (fun w hw => hash_any 1 (by decide) _ [some K] (by intro o ho; rw [List.mem_singleton.1 ho]; exact oK) (fun _ => by simp [flO, lenO]; omega) w (hw.src (A := []) (RdOf.blk (size := 1) (n := 1) (cs := vcs tmV [some K]) (cs' := vcs tmV [some K]) (Nat.le_refl _) (by unfold maxLen; omega) (by simp [vcs, tmV, tmC, flat, Value.cells]) rfl) (by repeat (first | exact Take1.head | apply Take1.tail))) hw.left.here) rfl (fun _ => ⟨_, (by repeat (first | exact TakeL.nil | (apply TakeL.cons; · repeat (first | exact Take1.head | apply Take1.tail))))⟩) ?_
  rintro ⟨⟩ -
  rw [F.e3]
  refine WD.one 4 (by kernel_rfl) ?_
  refine WO.callC (xs := [.tmp 40, .tmp 41]) (cap := []) rfl .no rfl rfl en15 (by repeat (first | exact TakeL.nil | (apply TakeL.cons; · repeat (first | exact Take1.head | apply Take1.tail)))) (fun w hw => sealed_any (some H1) (some B) oH1 oB (show H1.enc.length + B.enc.length ≤ _ by omega) w hw.left.here) rfl (fun _ => ⟨_, (by repeat (first | exact TakeL.nil | (apply TakeL.cons; · repeat (first | exact Take1.head | apply Take1.tail))))⟩) ?_
  rintro ⟨⟩ -
  rw [F.e4]
  refine WD.one 6 (by kernel_rfl) ?_
  refine WO.to rfl rfl .no (To.buildSlice (vs := [tmV (some S2), tmV (some A)]) un25 zs34 rfl rfl (by simp [Value.cells, tmV, tmC]) (by decide) (by decide)) rfl (fun _ => ⟨_, (by repeat (first | exact TakeL.nil | (apply TakeL.cons; · repeat (first | exact Take1.head | apply Take1.tail))))⟩) ?_
  intro b44
  rw [show flat [tmV (some S2), tmV (some A)] = vcs tmV [some S2, some A] from rfl]
  refine WD.one 7 (by kernel_rfl) ?_
  refine WO.callC (xs := [.tmp 44]) (cap := []) rfl .no rfl rfl en13 (by repeat (first | exact TakeL.nil | (apply TakeL.cons; · repeat (first | exact Take1.head | apply Take1.tail)))) (fun w hw => close_any [some S2, some A] (by intro o ho; simp only [List.mem_cons, List.not_mem_nil, or_false] at ho; rcases ho with rfl | rfl <;> apply lmk <;> assumption) (by simp only [wLs, wO, List.map_cons, List.map_nil, List.sum_cons, List.sum_nil, lenO]; omega) _ w (hw.src (A := []) (RdOf.blk (size := 1) (n := 2) (cs := vcs tmV [some S2, some A]) (cs' := vcs tmV [some S2, some A]) (Nat.le_refl _) (by unfold maxLen; omega) (by simp [vcs, tmV, tmC, flat, Value.cells]) rfl) (by repeat (first | exact Take1.head | apply Take1.tail))) hw.left.here) rfl (fun _ => ⟨_, (by repeat (first | exact TakeL.nil | (apply TakeL.cons; · repeat (first | exact Take1.head | apply Take1.tail))))⟩) ?_
  rintro ⟨k2, n2, m2⟩ ⟨q2, v2⟩
  dsimp only [List.cons_append, List.nil_append] at q2 v2 ⊢
  have c2 := F.r2 m2 q2
  have v2g := mpg_of v2
  refine WD.take 8 rfl (by kernel_rfl) (by kernel_rfl) (by kernel_rfl) rfl rfl (Yl.assign rfl) rfl ?_
  refine WD.done (by kernel_rfl) ?_
  refine WC.seq ?_
  refine WC.drawAny (Hs := [blkR b1 34 (tmC (some A)), blkR b2 34 (tmC (some B)), blkR b3 34 (tmC (some K))]) mixed (by kernel_rfl) ⟨_, (by repeat (first | exact TakeL.nil | (apply TakeL.cons; · repeat (first | exact Take1.head | apply Take1.tail))))⟩ ?_
  refine WD.take 0 rfl (by kernel_rfl) (by kernel_rfl) (by kernel_rfl) rfl rfl (Yl.loadN ag34 rfl (by repeat (first | exact Take1.head | apply Take1.tail)) (by rfl) (show _ = tmC (some A) from rfl)) rfl ?_
  refine WD.take 2 rfl (by kernel_rfl) (by kernel_rfl) (by kernel_rfl) rfl rfl (Yl.loadN ag34 rfl (by repeat (first | exact Take1.head | apply Take1.tail)) (by rfl) (show _ = tmC (some B) from rfl)) rfl ?_
  refine WD.take 4 rfl (by kernel_rfl) (by kernel_rfl) (by kernel_rfl) rfl rfl (Yl.loadN ag34 rfl (by repeat (first | exact Take1.head | apply Take1.tail)) (by rfl) (show _ = tmC (some A) from rfl)) rfl ?_
  refine WD.one 1 (by kernel_rfl) ?_
  refine WO.callC (xs := [.tmp 46]) (cap := []) rfl .no rfl rfl en17 (by repeat (first | exact TakeL.nil | (apply TakeL.cons; · repeat (first | exact Take1.head | apply Take1.tail)))) (fun w hw => public_any (some A) oA (show A.enc.length ≤ _ by omega) w hw.left.here) rfl (fun _ => ⟨_, (by repeat (first | exact TakeL.nil | (apply TakeL.cons; · repeat (first | exact Take1.head | apply Take1.tail))))⟩) ?_
  rintro ⟨⟩ -
  rw [F.e5]
  refine WD.one 3 (by kernel_rfl) ?_
  refine WO.callC (xs := [.tmp 48]) (cap := []) rfl .no rfl rfl en17 (by repeat (first | exact TakeL.nil | (apply TakeL.cons; · repeat (first | exact Take1.head | apply Take1.tail)))) (fun w hw => public_any (some B) oB (show B.enc.length ≤ _ by omega) w hw.left.here) rfl (fun _ => ⟨_, (by repeat (first | exact TakeL.nil | (apply TakeL.cons; · repeat (first | exact Take1.head | apply Take1.tail))))⟩) ?_
  rintro ⟨⟩ -
  rw [F.e6]
  refine WD.one 5 (by kernel_rfl) ?_
  refine WO.to rfl rfl .no (To.buildSlice (vs := [tmV (some UA), tmV (some UB), tmV (some A)]) un25 zs34 rfl rfl (by simp [Value.cells, tmV, tmC]) (by decide) (by decide)) rfl (fun _ => ⟨_, (by repeat (first | exact TakeL.nil | (apply TakeL.cons; · repeat (first | exact Take1.head | apply Take1.tail))))⟩) ?_
  intro b51
  rw [show flat [tmV (some UA), tmV (some UB), tmV (some A)] = vcs tmV [some UA, some UB, some A] from rfl]
  refine WD.one 6 (by kernel_rfl) ?_
  refine WO.callC (xs := [.tmp 51]) (cap := []) rfl .no rfl rfl en13 (by repeat (first | exact TakeL.nil | (apply TakeL.cons; · repeat (first | exact Take1.head | apply Take1.tail)))) (fun w hw => close_any [some UA, some UB, some A] (by intro o ho; simp only [List.mem_cons, List.not_mem_nil, or_false] at ho; rcases ho with rfl | rfl | rfl <;> apply lmk <;> assumption) (by simp only [wLs, wO, List.map_cons, List.map_nil, List.sum_cons, List.sum_nil, lenO]; omega) _ w (hw.src (A := []) (RdOf.blk (size := 1) (n := 3) (cs := vcs tmV [some UA, some UB, some A]) (cs' := vcs tmV [some UA, some UB, some A]) (Nat.le_refl _) (by unfold maxLen; omega) (by simp [vcs, tmV, tmC, flat, Value.cells]) rfl) (by repeat (first | exact Take1.head | apply Take1.tail))) hw.left.here) rfl (fun _ => ⟨_, (by repeat (first | exact TakeL.nil | (apply TakeL.cons; · repeat (first | exact Take1.head | apply Take1.tail))))⟩) ?_
  rintro ⟨k3, n3, m3⟩ ⟨q3, v3⟩
  dsimp only [List.cons_append, List.nil_append] at q3 v3 ⊢
  obtain ⟨c3s, c3b⟩ := F.r4 m3 q3
  have v3g := mpg_of v3
  refine WD.take 7 rfl (by kernel_rfl) (by kernel_rfl) (by kernel_rfl) rfl rfl (Yl.assign rfl) rfl ?_
  refine WD.done (by kernel_rfl) ?_
  refine WC.midE (α := Nat) (fun b => [(7, .pointer (some ⟨b, 0, none⟩)), (8, .int .i64 0)]) (fun b => [blkR b 34 (tmC (some SH)), blkR b1 34 (tmC (some A)), blkR b2 34 (tmC (some B)), blkR b3 34 (tmC (some K)), blkR k1 78 [.map (some n1)], mapR tmV unV n1 m1, blkR k2 78 [.map (some n2)], mapR tmV unV n2 m2, blkR k3 78 [.map (some n3)], mapR tmV unV n3 m3]) (fun _ => True) ?_ ?_
  · refine WC.drawAny (Hs := [blkR b1 34 (tmC (some A)), blkR b2 34 (tmC (some B)), blkR b3 34 (tmC (some K))]) mixed (by kernel_rfl) ⟨_, (by repeat (first | exact TakeL.nil | (apply TakeL.cons; · repeat (first | exact Take1.head | apply Take1.tail))))⟩ ?_
    refine WD.take 0 rfl (by kernel_rfl) (by kernel_rfl) (by kernel_rfl) rfl rfl (Yl.loadN ag34 rfl (by repeat (first | exact Take1.head | apply Take1.tail)) (by rfl) (show _ = tmC (some A) from rfl)) rfl ?_
    refine WD.take 1 rfl (by kernel_rfl) (by kernel_rfl) (by kernel_rfl) rfl rfl (Yl.loadN ag34 rfl (by repeat (first | exact Take1.head | apply Take1.tail)) (by rfl) (show _ = tmC (some B) from rfl)) rfl ?_
    refine WD.two 2 7 (by kernel_rfl) ?_ ?_
    · refine WO.callC (xs := [.tmp 55]) (cap := []) rfl .no rfl rfl en17 (by repeat (first | exact TakeL.nil | (apply TakeL.cons; · repeat (first | exact Take1.head | apply Take1.tail)))) (fun w hw => public_any (some B) oB (show B.enc.length ≤ _ by omega) w hw.left.here) rfl (fun _ => ⟨_, (by repeat (first | exact TakeL.nil | (apply TakeL.cons; · repeat (first | exact Take1.head | apply Take1.tail))))⟩) ?_
      rintro ⟨⟩ -
      rw [F.e6]
      refine WD.two 3 7 (by kernel_rfl) ?_ ?_
      · refine WO.callC (xs := [.tmp 54, .tmp 56]) (cap := []) rfl .no rfl rfl en19 (by repeat (first | exact TakeL.nil | (apply TakeL.cons; · repeat (first | exact Take1.head | apply Take1.tail)))) (fun w hw => shared_any (some A) (some UB) oA oUB (show A.enc.length + UB.enc.length ≤ _ by omega) w hw.left.here) rfl (fun _ => ⟨_, (by repeat (first | exact TakeL.nil | (apply TakeL.cons; · repeat (first | exact Take1.head | apply Take1.tail))))⟩) ?_
        rintro ⟨⟩ -
        rw [F.e7, show (if (some SH).isSome = true then (0 : Int) else 2) = 0 from rfl]
        refine WD.take 4 rfl (by kernel_rfl) (by kernel_rfl) (by kernel_rfl) rfl rfl (Yl.move rfl) rfl ?_
        refine WD.take 5 rfl (by kernel_rfl) (by kernel_rfl) (by kernel_rfl) rfl rfl (Yl.extract rfl rfl) rfl ?_
        refine WD.take 6 rfl (by kernel_rfl) (by kernel_rfl) (by kernel_rfl) rfl rfl (Yl.extract rfl rfl) rfl ?_
        refine WD.one 7 (by kernel_rfl) ?_
        refine WO.to rfl rfl .no (To.alloc (cs := [.string (strOfNums [])]) zr34 rfl) rfl (fun _ => ⟨_, (by repeat (first | exact TakeL.nil | (apply TakeL.cons; · repeat (first | exact Take1.head | apply Take1.tail))))⟩) ?_
        intro b7
        refine WD.one 8 (by kernel_rfl) ?_
        refine WO.sto rfl rfl .no (Sto.agg sz34 rfl rfl (by repeat (first | exact Take1.head | apply Take1.tail)) (tm_ones _) rfl (by rfl) (show _ = tmC (some SH) from rfl)) ⟨_, (by repeat (first | exact TakeL.nil | (apply TakeL.cons; · repeat (first | exact Take1.head | apply Take1.tail))))⟩ ?_
        refine WD.take 9 rfl (by kernel_rfl) (by kernel_rfl) (by kernel_rfl) rfl rfl (Yl.assign rfl) rfl ?_
        refine WD.done (by kernel_rfl) ?_
        exact ⟨rfl, _, trivial, (by repeat (first | exact Sub.nil | refine Sub.cons rfl ?_)), (by repeat (first | exact Sub.nil | refine Sub.cons rfl ?_)), _, (by repeat (first | exact TakeL.nil | (apply TakeL.cons; · repeat (first | exact Take1.head | apply Take1.tail))))⟩
      · refine WO.to rfl rfl .no (To.alloc (cs := [.string (strOfNums [])]) zr34 rfl) rfl (fun _ => ⟨_, (by repeat (first | exact TakeL.nil | (apply TakeL.cons; · repeat (first | exact Take1.head | apply Take1.tail))))⟩) ?_
        intro b7
        refine WD.one 3 (by kernel_rfl) ?_
        refine WO.callC (xs := [.tmp 54, .tmp 56]) (cap := []) rfl .no rfl rfl en19 (by repeat (first | exact TakeL.nil | (apply TakeL.cons; · repeat (first | exact Take1.head | apply Take1.tail)))) (fun w hw => shared_any (some A) (some UB) oA oUB (show A.enc.length + UB.enc.length ≤ _ by omega) w hw.left.here) rfl (fun _ => ⟨_, (by repeat (first | exact TakeL.nil | (apply TakeL.cons; · repeat (first | exact Take1.head | apply Take1.tail))))⟩) ?_
        rintro ⟨⟩ -
        rw [F.e7, show (if (some SH).isSome = true then (0 : Int) else 2) = 0 from rfl]
        refine WD.take 4 rfl (by kernel_rfl) (by kernel_rfl) (by kernel_rfl) rfl rfl (Yl.move rfl) rfl ?_
        refine WD.take 5 rfl (by kernel_rfl) (by kernel_rfl) (by kernel_rfl) rfl rfl (Yl.extract rfl rfl) rfl ?_
        refine WD.take 6 rfl (by kernel_rfl) (by kernel_rfl) (by kernel_rfl) rfl rfl (Yl.extract rfl rfl) rfl ?_
        refine WD.one 8 (by kernel_rfl) ?_
        refine WO.sto rfl rfl .no (Sto.agg sz34 rfl rfl (by repeat (first | exact Take1.head | apply Take1.tail)) (tm_ones _) rfl (by rfl) (show _ = tmC (some SH) from rfl)) ⟨_, (by repeat (first | exact TakeL.nil | (apply TakeL.cons; · repeat (first | exact Take1.head | apply Take1.tail))))⟩ ?_
        refine WD.take 9 rfl (by kernel_rfl) (by kernel_rfl) (by kernel_rfl) rfl rfl (Yl.assign rfl) rfl ?_
        refine WD.done (by kernel_rfl) ?_
        exact ⟨rfl, _, trivial, (by repeat (first | exact Sub.nil | refine Sub.cons rfl ?_)), (by repeat (first | exact Sub.nil | refine Sub.cons rfl ?_)), _, (by repeat (first | exact TakeL.nil | (apply TakeL.cons; · repeat (first | exact Take1.head | apply Take1.tail))))⟩
    · refine WO.to rfl rfl .no (To.alloc (cs := [.string (strOfNums [])]) zr34 rfl) rfl (fun _ => ⟨_, (by repeat (first | exact TakeL.nil | (apply TakeL.cons; · repeat (first | exact Take1.head | apply Take1.tail))))⟩) ?_
      intro b7
      refine WD.one 2 (by kernel_rfl) ?_
      refine WO.callC (xs := [.tmp 55]) (cap := []) rfl .no rfl rfl en17 (by repeat (first | exact TakeL.nil | (apply TakeL.cons; · repeat (first | exact Take1.head | apply Take1.tail)))) (fun w hw => public_any (some B) oB (show B.enc.length ≤ _ by omega) w hw.left.here) rfl (fun _ => ⟨_, (by repeat (first | exact TakeL.nil | (apply TakeL.cons; · repeat (first | exact Take1.head | apply Take1.tail))))⟩) ?_
      rintro ⟨⟩ -
      rw [F.e6]
      refine WD.one 3 (by kernel_rfl) ?_
      refine WO.callC (xs := [.tmp 54, .tmp 56]) (cap := []) rfl .no rfl rfl en19 (by repeat (first | exact TakeL.nil | (apply TakeL.cons; · repeat (first | exact Take1.head | apply Take1.tail)))) (fun w hw => shared_any (some A) (some UB) oA oUB (show A.enc.length + UB.enc.length ≤ _ by omega) w hw.left.here) rfl (fun _ => ⟨_, (by repeat (first | exact TakeL.nil | (apply TakeL.cons; · repeat (first | exact Take1.head | apply Take1.tail))))⟩) ?_
      rintro ⟨⟩ -
      rw [F.e7, show (if (some SH).isSome = true then (0 : Int) else 2) = 0 from rfl]
      refine WD.take 4 rfl (by kernel_rfl) (by kernel_rfl) (by kernel_rfl) rfl rfl (Yl.move rfl) rfl ?_
      refine WD.take 5 rfl (by kernel_rfl) (by kernel_rfl) (by kernel_rfl) rfl rfl (Yl.extract rfl rfl) rfl ?_
      refine WD.take 6 rfl (by kernel_rfl) (by kernel_rfl) (by kernel_rfl) rfl rfl (Yl.extract rfl rfl) rfl ?_
      refine WD.one 8 (by kernel_rfl) ?_
      refine WO.sto rfl rfl .no (Sto.agg sz34 rfl rfl (by repeat (first | exact Take1.head | apply Take1.tail)) (tm_ones _) rfl (by rfl) (show _ = tmC (some SH) from rfl)) ⟨_, (by repeat (first | exact TakeL.nil | (apply TakeL.cons; · repeat (first | exact Take1.head | apply Take1.tail))))⟩ ?_
      refine WD.take 9 rfl (by kernel_rfl) (by kernel_rfl) (by kernel_rfl) rfl rfl (Yl.assign rfl) rfl ?_
      refine WD.done (by kernel_rfl) ?_
      exact ⟨rfl, _, trivial, (by repeat (first | exact Sub.nil | refine Sub.cons rfl ?_)), (by repeat (first | exact Sub.nil | refine Sub.cons rfl ?_)), _, (by repeat (first | exact TakeL.nil | (apply TakeL.cons; · repeat (first | exact Take1.head | apply Take1.tail))))⟩
  · intro b7 _
    refine WC.midE (α := Nat) (fun b => [(9, .pointer (some ⟨b, 0, none⟩)), (10, .int .i64 0)]) (fun b => [blkR b 34 (tmC (some SH)), blkR b7 34 (tmC (some SH)), blkR b1 34 (tmC (some A)), blkR b2 34 (tmC (some B)), blkR b3 34 (tmC (some K)), blkR k1 78 [.map (some n1)], mapR tmV unV n1 m1, blkR k2 78 [.map (some n2)], mapR tmV unV n2 m2, blkR k3 78 [.map (some n3)], mapR tmV unV n3 m3]) (fun _ => True) ?_ ?_
    · refine WC.drawAny (Hs := [blkR b1 34 (tmC (some A)), blkR b2 34 (tmC (some B)), blkR b3 34 (tmC (some K))]) mixed (by kernel_rfl) ⟨_, (by repeat (first | exact TakeL.nil | (apply TakeL.cons; · repeat (first | exact Take1.head | apply Take1.tail))))⟩ ?_
      refine WD.take 0 rfl (by kernel_rfl) (by kernel_rfl) (by kernel_rfl) rfl rfl (Yl.loadN ag34 rfl (by repeat (first | exact Take1.head | apply Take1.tail)) (by rfl) (show _ = tmC (some B) from rfl)) rfl ?_
      refine WD.take 1 rfl (by kernel_rfl) (by kernel_rfl) (by kernel_rfl) rfl rfl (Yl.loadN ag34 rfl (by repeat (first | exact Take1.head | apply Take1.tail)) (by rfl) (show _ = tmC (some A) from rfl)) rfl ?_
      refine WD.two 2 7 (by kernel_rfl) ?_ ?_
      · refine WO.callC (xs := [.tmp 62]) (cap := []) rfl .no rfl rfl en17 (by repeat (first | exact TakeL.nil | (apply TakeL.cons; · repeat (first | exact Take1.head | apply Take1.tail)))) (fun w hw => public_any (some A) oA (show A.enc.length ≤ _ by omega) w hw.left.here) rfl (fun _ => ⟨_, (by repeat (first | exact TakeL.nil | (apply TakeL.cons; · repeat (first | exact Take1.head | apply Take1.tail))))⟩) ?_
        rintro ⟨⟩ -
        rw [F.e5]
        refine WD.two 3 7 (by kernel_rfl) ?_ ?_
        · refine WO.callC (xs := [.tmp 61, .tmp 63]) (cap := []) rfl .no rfl rfl en19 (by repeat (first | exact TakeL.nil | (apply TakeL.cons; · repeat (first | exact Take1.head | apply Take1.tail)))) (fun w hw => shared_any (some B) (some UA) oB oUA (show B.enc.length + UA.enc.length ≤ _ by omega) w hw.left.here) rfl (fun _ => ⟨_, (by repeat (first | exact TakeL.nil | (apply TakeL.cons; · repeat (first | exact Take1.head | apply Take1.tail))))⟩) ?_
          rintro ⟨⟩ -
          rw [F.e8, show (if (some SH).isSome = true then (0 : Int) else 2) = 0 from rfl]
          refine WD.take 4 rfl (by kernel_rfl) (by kernel_rfl) (by kernel_rfl) rfl rfl (Yl.move rfl) rfl ?_
          refine WD.take 5 rfl (by kernel_rfl) (by kernel_rfl) (by kernel_rfl) rfl rfl (Yl.extract rfl rfl) rfl ?_
          refine WD.take 6 rfl (by kernel_rfl) (by kernel_rfl) (by kernel_rfl) rfl rfl (Yl.extract rfl rfl) rfl ?_
          refine WD.one 7 (by kernel_rfl) ?_
          refine WO.to rfl rfl .no (To.alloc (cs := [.string (strOfNums [])]) zr34 rfl) rfl (fun _ => ⟨_, (by repeat (first | exact TakeL.nil | (apply TakeL.cons; · repeat (first | exact Take1.head | apply Take1.tail))))⟩) ?_
          intro b9
          refine WD.one 8 (by kernel_rfl) ?_
          refine WO.sto rfl rfl .no (Sto.agg sz34 rfl rfl (by repeat (first | exact Take1.head | apply Take1.tail)) (tm_ones _) rfl (by rfl) (show _ = tmC (some SH) from rfl)) ⟨_, (by repeat (first | exact TakeL.nil | (apply TakeL.cons; · repeat (first | exact Take1.head | apply Take1.tail))))⟩ ?_
          refine WD.take 9 rfl (by kernel_rfl) (by kernel_rfl) (by kernel_rfl) rfl rfl (Yl.assign rfl) rfl ?_
          refine WD.done (by kernel_rfl) ?_
          exact ⟨rfl, _, trivial, (by repeat (first | exact Sub.nil | refine Sub.cons rfl ?_)), (by repeat (first | exact Sub.nil | refine Sub.cons rfl ?_)), _, (by repeat (first | exact TakeL.nil | (apply TakeL.cons; · repeat (first | exact Take1.head | apply Take1.tail))))⟩
        · refine WO.to rfl rfl .no (To.alloc (cs := [.string (strOfNums [])]) zr34 rfl) rfl (fun _ => ⟨_, (by repeat (first | exact TakeL.nil | (apply TakeL.cons; · repeat (first | exact Take1.head | apply Take1.tail))))⟩) ?_
          intro b9
          refine WD.one 3 (by kernel_rfl) ?_
          refine WO.callC (xs := [.tmp 61, .tmp 63]) (cap := []) rfl .no rfl rfl en19 (by repeat (first | exact TakeL.nil | (apply TakeL.cons; · repeat (first | exact Take1.head | apply Take1.tail)))) (fun w hw => shared_any (some B) (some UA) oB oUA (show B.enc.length + UA.enc.length ≤ _ by omega) w hw.left.here) rfl (fun _ => ⟨_, (by repeat (first | exact TakeL.nil | (apply TakeL.cons; · repeat (first | exact Take1.head | apply Take1.tail))))⟩) ?_
          rintro ⟨⟩ -
          rw [F.e8, show (if (some SH).isSome = true then (0 : Int) else 2) = 0 from rfl]
          refine WD.take 4 rfl (by kernel_rfl) (by kernel_rfl) (by kernel_rfl) rfl rfl (Yl.move rfl) rfl ?_
          refine WD.take 5 rfl (by kernel_rfl) (by kernel_rfl) (by kernel_rfl) rfl rfl (Yl.extract rfl rfl) rfl ?_
          refine WD.take 6 rfl (by kernel_rfl) (by kernel_rfl) (by kernel_rfl) rfl rfl (Yl.extract rfl rfl) rfl ?_
          refine WD.one 8 (by kernel_rfl) ?_
          refine WO.sto rfl rfl .no (Sto.agg sz34 rfl rfl (by repeat (first | exact Take1.head | apply Take1.tail)) (tm_ones _) rfl (by rfl) (show _ = tmC (some SH) from rfl)) ⟨_, (by repeat (first | exact TakeL.nil | (apply TakeL.cons; · repeat (first | exact Take1.head | apply Take1.tail))))⟩ ?_
          refine WD.take 9 rfl (by kernel_rfl) (by kernel_rfl) (by kernel_rfl) rfl rfl (Yl.assign rfl) rfl ?_
          refine WD.done (by kernel_rfl) ?_
          exact ⟨rfl, _, trivial, (by repeat (first | exact Sub.nil | refine Sub.cons rfl ?_)), (by repeat (first | exact Sub.nil | refine Sub.cons rfl ?_)), _, (by repeat (first | exact TakeL.nil | (apply TakeL.cons; · repeat (first | exact Take1.head | apply Take1.tail))))⟩
      · refine WO.to rfl rfl .no (To.alloc (cs := [.string (strOfNums [])]) zr34 rfl) rfl (fun _ => ⟨_, (by repeat (first | exact TakeL.nil | (apply TakeL.cons; · repeat (first | exact Take1.head | apply Take1.tail))))⟩) ?_
        intro b9
        refine WD.one 2 (by kernel_rfl) ?_
        refine WO.callC (xs := [.tmp 62]) (cap := []) rfl .no rfl rfl en17 (by repeat (first | exact TakeL.nil | (apply TakeL.cons; · repeat (first | exact Take1.head | apply Take1.tail)))) (fun w hw => public_any (some A) oA (show A.enc.length ≤ _ by omega) w hw.left.here) rfl (fun _ => ⟨_, (by repeat (first | exact TakeL.nil | (apply TakeL.cons; · repeat (first | exact Take1.head | apply Take1.tail))))⟩) ?_
        rintro ⟨⟩ -
        rw [F.e5]
        refine WD.one 3 (by kernel_rfl) ?_
        refine WO.callC (xs := [.tmp 61, .tmp 63]) (cap := []) rfl .no rfl rfl en19 (by repeat (first | exact TakeL.nil | (apply TakeL.cons; · repeat (first | exact Take1.head | apply Take1.tail)))) (fun w hw => shared_any (some B) (some UA) oB oUA (show B.enc.length + UA.enc.length ≤ _ by omega) w hw.left.here) rfl (fun _ => ⟨_, (by repeat (first | exact TakeL.nil | (apply TakeL.cons; · repeat (first | exact Take1.head | apply Take1.tail))))⟩) ?_
        rintro ⟨⟩ -
        rw [F.e8, show (if (some SH).isSome = true then (0 : Int) else 2) = 0 from rfl]
        refine WD.take 4 rfl (by kernel_rfl) (by kernel_rfl) (by kernel_rfl) rfl rfl (Yl.move rfl) rfl ?_
        refine WD.take 5 rfl (by kernel_rfl) (by kernel_rfl) (by kernel_rfl) rfl rfl (Yl.extract rfl rfl) rfl ?_
        refine WD.take 6 rfl (by kernel_rfl) (by kernel_rfl) (by kernel_rfl) rfl rfl (Yl.extract rfl rfl) rfl ?_
        refine WD.one 8 (by kernel_rfl) ?_
        refine WO.sto rfl rfl .no (Sto.agg sz34 rfl rfl (by repeat (first | exact Take1.head | apply Take1.tail)) (tm_ones _) rfl (by rfl) (show _ = tmC (some SH) from rfl)) ⟨_, (by repeat (first | exact TakeL.nil | (apply TakeL.cons; · repeat (first | exact Take1.head | apply Take1.tail))))⟩ ?_
        refine WD.take 9 rfl (by kernel_rfl) (by kernel_rfl) (by kernel_rfl) rfl rfl (Yl.assign rfl) rfl ?_
        refine WD.done (by kernel_rfl) ?_
        exact ⟨rfl, _, trivial, (by repeat (first | exact Sub.nil | refine Sub.cons rfl ?_)), (by repeat (first | exact Sub.nil | refine Sub.cons rfl ?_)), _, (by repeat (first | exact TakeL.nil | (apply TakeL.cons; · repeat (first | exact Take1.head | apply Take1.tail))))⟩
    · intro b9 _
      refine WC.seq ?_
      refine WC.region ?_
      refine WL.y (Yl.loadN ag34 rfl (by repeat (first | exact Take1.head | apply Take1.tail)) (by rfl) (show _ = tmC (some A) from rfl)) rfl ?_
      refine WL.y (Yl.loadN ag34 rfl (by repeat (first | exact Take1.head | apply Take1.tail)) (by rfl) (show _ = tmC (some B) from rfl)) rfl ?_
      refine WL.callC (xs := [.tmp 68, .tmp 69]) (cap := []) rfl rfl en19 (by repeat (first | exact TakeL.nil | (apply TakeL.cons; · repeat (first | exact Take1.head | apply Take1.tail)))) (fun w hw => shared_any (some A) (some B) oA oB (show A.enc.length + B.enc.length ≤ _ by omega) w hw.left.here) rfl ?_
      rintro ⟨⟩ -
      rw [F.e9, show (if (none : Option Tm).isSome = true then (0 : Int) else 2) = 2 from rfl]
      refine WL.y (Yl.move rfl) rfl ?_
      refine WL.y (Yl.extract rfl rfl) rfl ?_
      refine WL.y (Yl.extract rfl rfl) rfl ?_
      refine WL.to (To.alloc (cs := [.string (strOfNums [])]) zr34 rfl) rfl ?_
      intro b11
      refine WL.sto (Sto.agg sz34 rfl rfl (by repeat (first | exact Take1.head | apply Take1.tail)) (tm_ones none) rfl (by rfl) (show _ = tmC none from rfl)) (fun _ h => nomatch h) ?_
      refine WL.y (Yl.assign rfl) rfl ?_
      refine WL.nil ?_
      refine WC.seq ?_
      refine WC.seq ?_
      refine WC.drawAny (Hs := [blkR b9 34 (tmC (some SH)), blkR b7 34 (tmC (some SH)), blkR b1 34 (tmC (some A)), blkR b2 34 (tmC (some B)), blkR b3 34 (tmC (some K)), blkR k1 78 [.map (some n1)], mapR tmV unV n1 m1, blkR k2 78 [.map (some n2)], mapR tmV unV n2 m2, blkR k3 78 [.map (some n3)], mapR tmV unV n3 m3]) mixed (by kernel_rfl) ⟨_, (by repeat (first | exact TakeL.nil | (apply TakeL.cons; · repeat (first | exact Take1.head | apply Take1.tail))))⟩ ?_
      refine WD.take 0 rfl (by kernel_rfl) (by kernel_rfl) (by kernel_rfl) rfl rfl (Yl.move rfl) rfl ?_
      refine WD.take 1 rfl (by kernel_rfl) (by kernel_rfl) (by kernel_rfl) rfl rfl (Yl.loadN ag34 rfl (by repeat (first | exact Take1.head | apply Take1.tail)) (by rfl) (show _ = tmC (some A) from rfl)) rfl ?_
      refine WD.one 2 (by kernel_rfl) ?_
      refine WO.callC (xs := [.tmp 73, .tmp 74]) (cap := []) rfl .no rfl rfl en18 (by repeat (first | exact TakeL.nil | (apply TakeL.cons; · repeat (first | exact Take1.head | apply Take1.tail)))) (fun w hw => can_any k1 n1 m1 v1g (some A) oA (show A.enc.length ≤ _ by omega) w (hw.get (by repeat (first | exact Take1.head | apply Take1.tail))) (hw.get (by repeat (first | exact Take1.head | apply Take1.tail)))) rfl (fun _ => ⟨_, (by repeat (first | exact TakeL.nil | (apply TakeL.cons; · repeat (first | exact Take1.head | apply Take1.tail))))⟩) ?_
      rintro ⟨⟩ -
      refine WD.know (t := 75) (b' := true) rfl c1a ?_
      refine WD.take 3 rfl (by kernel_rfl) (by kernel_rfl) (by kernel_rfl) rfl rfl (Yl.not rfl) rfl ?_
      refine WD.take 4 rfl (by kernel_rfl) (by kernel_rfl) (by kernel_rfl) rfl rfl (Yl.move rfl) rfl ?_
      refine WD.takeOn 5 rfl (by kernel_rfl) (by kernel_rfl) (by kernel_rfl) rfl rfl rfl rfl (Yl.move rfl) rfl ?_
      refine WD.takeOn 6 rfl (by kernel_rfl) (by kernel_rfl) (by kernel_rfl) rfl rfl rfl rfl (Yl.loadN ag34 rfl (by repeat (first | exact Take1.head | apply Take1.tail)) (by rfl) (show _ = tmC (some B) from rfl)) rfl ?_
      refine WD.one 7 (by kernel_rfl) ?_
      refine WO.callC (xs := [.tmp 78, .tmp 79]) (cap := []) rfl (.on rfl rfl) rfl rfl en18 (by repeat (first | exact TakeL.nil | (apply TakeL.cons; · repeat (first | exact Take1.head | apply Take1.tail)))) (fun w hw => can_any k1 n1 m1 v1g (some B) oB (show B.enc.length ≤ _ by omega) w (hw.get (by repeat (first | exact Take1.head | apply Take1.tail))) (hw.get (by repeat (first | exact Take1.head | apply Take1.tail)))) rfl (fun _ => ⟨_, (by repeat (first | exact TakeL.nil | (apply TakeL.cons; · repeat (first | exact Take1.head | apply Take1.tail))))⟩) ?_
      rintro ⟨⟩ -
      refine WD.know (t := 80) (b' := true) rfl c1b ?_
      refine WD.takeOn 8 rfl (by kernel_rfl) (by kernel_rfl) (by kernel_rfl) rfl rfl rfl rfl (Yl.not rfl) rfl ?_
      refine WD.take 9 rfl (by kernel_rfl) (by kernel_rfl) (by kernel_rfl) rfl rfl (Yl.pickF rfl rfl) rfl ?_
      refine WD.take 10 rfl (by kernel_rfl) (by kernel_rfl) (by kernel_rfl) rfl rfl (Yl.move rfl) rfl ?_
      refine WD.takeOn 11 rfl (by kernel_rfl) (by kernel_rfl) (by kernel_rfl) rfl rfl rfl rfl (Yl.move rfl) rfl ?_
      refine WD.takeOn 12 rfl (by kernel_rfl) (by kernel_rfl) (by kernel_rfl) rfl rfl rfl rfl (Yl.loadN ag34 rfl (by repeat (first | exact Take1.head | apply Take1.tail)) (by rfl) (show _ = tmC (some B) from rfl)) rfl ?_
      refine WD.takeOn 13 rfl (by kernel_rfl) (by kernel_rfl) (by kernel_rfl) rfl rfl rfl rfl (Yl.loadN ag34 rfl (by repeat (first | exact Take1.head | apply Take1.tail)) (by rfl) (show _ = tmC (some A) from rfl)) rfl ?_
      refine WD.one 14 (by kernel_rfl) ?_
      refine WO.to rfl rfl (.on rfl rfl) (To.buildSlice (vs := [tmV (some B), tmV (some A)]) un25 zs34 rfl rfl (by simp [Value.cells, tmV, tmC]) (by decide) (by decide)) rfl (fun _ => ⟨_, (by repeat (first | exact TakeL.nil | (apply TakeL.cons; · repeat (first | exact Take1.head | apply Take1.tail))))⟩) ?_
      intro b87
      rw [show flat [tmV (some B), tmV (some A)] = vcs tmV [some B, some A] from rfl]
      refine WD.one 15 (by kernel_rfl) ?_
      refine WO.callC (xs := [_, .tmp 87]) (cap := []) rfl (.on rfl rfl) rfl rfl en16 (by repeat (first | exact TakeL.nil | (apply TakeL.cons; · repeat (first | exact Take1.head | apply Take1.tail)))) (fun w hw => hash_any 7 (by decide) _ [some B, some A] (by intro o ho; simp only [List.mem_cons, List.not_mem_nil, or_false] at ho; rcases ho with rfl | rfl <;> assumption) (fun _ => by simp [flO, lenO]; omega) w (hw.src (A := []) (RdOf.blk (size := 1) (n := 2) (cs := vcs tmV [some B, some A]) (cs' := vcs tmV [some B, some A]) (Nat.le_refl _) (by unfold maxLen; omega) (by simp [vcs, tmV, tmC, flat, Value.cells]) rfl) (by repeat (first | exact Take1.head | apply Take1.tail))) hw.left.here) rfl (fun _ => ⟨_, (by repeat (first | exact TakeL.nil | (apply TakeL.cons; · repeat (first | exact Take1.head | apply Take1.tail))))⟩) ?_
      rintro ⟨⟩ -
      rw [F.e10]
      refine WD.one 16 (by kernel_rfl) ?_
      refine WO.callC (xs := [.tmp 84, .tmp 88]) (cap := []) rfl (.on rfl rfl) rfl rfl en18 (by repeat (first | exact TakeL.nil | (apply TakeL.cons; · repeat (first | exact Take1.head | apply Take1.tail)))) (fun w hw => can_any k1 n1 m1 v1g (some H7) oH7 (show H7.enc.length ≤ _ by omega) w (hw.get (by repeat (first | exact Take1.head | apply Take1.tail))) (hw.get (by repeat (first | exact Take1.head | apply Take1.tail)))) rfl (fun _ => ⟨_, (by repeat (first | exact TakeL.nil | (apply TakeL.cons; · repeat (first | exact Take1.head | apply Take1.tail))))⟩) ?_
      rintro ⟨⟩ -
      refine WD.know (t := 89) (b' := true) rfl c1h ?_
      refine WD.takeOn 17 rfl (by kernel_rfl) (by kernel_rfl) (by kernel_rfl) rfl rfl rfl rfl (Yl.not rfl) rfl ?_
      refine WD.take 18 rfl (by kernel_rfl) (by kernel_rfl) (by kernel_rfl) rfl rfl (Yl.pickF rfl rfl) rfl ?_
      refine WD.take 19 rfl (by kernel_rfl) (by kernel_rfl) (by kernel_rfl) rfl rfl (Yl.move rfl) rfl ?_
      refine WD.takeOn 20 rfl (by kernel_rfl) (by kernel_rfl) (by kernel_rfl) rfl rfl rfl rfl (Yl.move rfl) rfl ?_
      refine WD.takeOn 21 rfl (by kernel_rfl) (by kernel_rfl) (by kernel_rfl) rfl rfl rfl rfl (Yl.loadN ag34 rfl (by repeat (first | exact Take1.head | apply Take1.tail)) (by rfl) (show _ = tmC (some B) from rfl)) rfl ?_
      refine WD.one 22 (by kernel_rfl) ?_
      refine WO.callC (xs := [.tmp 93, .tmp 94]) (cap := []) rfl (.on rfl rfl) rfl rfl en18 (by repeat (first | exact TakeL.nil | (apply TakeL.cons; · repeat (first | exact Take1.head | apply Take1.tail)))) (fun w hw => can_any k2 n2 m2 v2g (some B) oB (show B.enc.length ≤ _ by omega) w (hw.get (by repeat (first | exact Take1.head | apply Take1.tail))) (hw.get (by repeat (first | exact Take1.head | apply Take1.tail)))) rfl (fun _ => ⟨_, (by repeat (first | exact TakeL.nil | (apply TakeL.cons; · repeat (first | exact Take1.head | apply Take1.tail))))⟩) ?_
      rintro ⟨⟩ -
      refine WD.know (t := 95) (b' := false) rfl c2 ?_
      refine WD.take 23 rfl (by kernel_rfl) (by kernel_rfl) (by kernel_rfl) rfl rfl (Yl.pickF rfl rfl) rfl ?_
      refine WD.take 24 rfl (by kernel_rfl) (by kernel_rfl) (by kernel_rfl) rfl rfl (Yl.move rfl) rfl ?_
      refine WD.takeOn 25 rfl (by kernel_rfl) (by kernel_rfl) (by kernel_rfl) rfl rfl rfl rfl (Yl.loadN ag34 rfl (by repeat (first | exact Take1.head | apply Take1.tail)) (by rfl) (show _ = tmC (some K) from rfl)) rfl ?_
      refine WD.takeOn 28 rfl (by kernel_rfl) (by kernel_rfl) (by kernel_rfl) rfl rfl rfl rfl (Yl.loadN ag34 rfl (by repeat (first | exact Take1.head | apply Take1.tail)) (by rfl) (show _ = tmC (some B) from rfl)) rfl ?_
      refine WD.takeOn 30 rfl (by kernel_rfl) (by kernel_rfl) (by kernel_rfl) rfl rfl rfl rfl (Yl.loadN ag34 rfl (by repeat (first | exact Take1.head | apply Take1.tail)) (by rfl) (show _ = tmC (some K) from rfl)) rfl ?_
      refine WD.takeOn 33 rfl (by kernel_rfl) (by kernel_rfl) (by kernel_rfl) rfl rfl rfl rfl (Yl.loadN ag34 rfl (by repeat (first | exact Take1.head | apply Take1.tail)) (by rfl) (show _ = tmC (some B) from rfl)) rfl ?_
      refine WD.one 26 (by kernel_rfl) ?_
      refine WO.to rfl rfl (.on rfl rfl) (To.buildSlice (vs := [tmV (some K)]) un25 zs34 rfl rfl (by simp [Value.cells, tmV, tmC]) (by decide) (by decide)) rfl (fun _ => ⟨_, (by repeat (first | exact TakeL.nil | (apply TakeL.cons; · repeat (first | exact Take1.head | apply Take1.tail))))⟩) ?_
      intro b99
      rw [show flat [tmV (some K)] = vcs tmV [some K] from rfl]
      refine WD.one 27 (by kernel_rfl) ?_
      refine WO.callC (xs := [_, .tmp 99]) (cap := []) rfl (.on rfl rfl) rfl rfl en16 (by repeat (first | exact TakeL.nil | (apply TakeL.cons; · repeat (first | exact Take1.head | apply Take1.tail)))) (fun w hw => hash_any 1 (by decide) _ [some K] (by intro o ho; rw [List.mem_singleton.1 ho]; exact oK) (fun _ => by simp [flO, lenO]; omega) w (hw.src (A := []) (RdOf.blk (size := 1) (n := 1) (cs := vcs tmV [some K]) (cs' := vcs tmV [some K]) (Nat.le_refl _) (by unfold maxLen; omega) (by simp [vcs, tmV, tmC, flat, Value.cells]) rfl) (by repeat (first | exact Take1.head | apply Take1.tail))) hw.left.here) rfl (fun _ => ⟨_, (by repeat (first | exact TakeL.nil | (apply TakeL.cons; · repeat (first | exact Take1.head | apply Take1.tail))))⟩) ?_
      rintro ⟨⟩ -
      rw [F.e3]
      refine WD.one 29 (by kernel_rfl) ?_
      refine WO.callC (xs := [.tmp 100, .tmp 101]) (cap := []) rfl (.on rfl rfl) rfl rfl en15 (by repeat (first | exact TakeL.nil | (apply TakeL.cons; · repeat (first | exact Take1.head | apply Take1.tail)))) (fun w hw => sealed_any (some H1) (some B) oH1 oB (show H1.enc.length + B.enc.length ≤ _ by omega) w hw.left.here) rfl (fun _ => ⟨_, (by repeat (first | exact TakeL.nil | (apply TakeL.cons; · repeat (first | exact Take1.head | apply Take1.tail))))⟩) ?_
      rintro ⟨⟩ -
      rw [F.e4]
      refine WD.one 31 (by kernel_rfl) ?_
      refine WO.to rfl rfl (.on rfl rfl) (To.buildSlice (vs := [tmV (some S2), tmV (some K)]) un25 zs34 rfl rfl (by simp [Value.cells, tmV, tmC]) (by decide) (by decide)) rfl (fun _ => ⟨_, (by repeat (first | exact TakeL.nil | (apply TakeL.cons; · repeat (first | exact Take1.head | apply Take1.tail))))⟩) ?_
      intro b104
      rw [show flat [tmV (some S2), tmV (some K)] = vcs tmV [some S2, some K] from rfl]
      refine WD.one 32 (by kernel_rfl) ?_
      refine WO.callC (xs := [.tmp 104]) (cap := []) rfl (.on rfl rfl) rfl rfl en13 (by repeat (first | exact TakeL.nil | (apply TakeL.cons; · repeat (first | exact Take1.head | apply Take1.tail)))) (fun w hw => close_any [some S2, some K] (by intro o ho; simp only [List.mem_cons, List.not_mem_nil, or_false] at ho; rcases ho with rfl | rfl <;> apply lmk <;> assumption) (by simp only [wLs, wO, List.map_cons, List.map_nil, List.sum_cons, List.sum_nil, lenO]; omega) _ w (hw.src (A := []) (RdOf.blk (size := 1) (n := 2) (cs := vcs tmV [some S2, some K]) (cs' := vcs tmV [some S2, some K]) (Nat.le_refl _) (by unfold maxLen; omega) (by simp [vcs, tmV, tmC, flat, Value.cells]) rfl) (by repeat (first | exact Take1.head | apply Take1.tail))) hw.left.here) rfl (fun _ => ⟨_, (by repeat (first | exact TakeL.nil | (apply TakeL.cons; · repeat (first | exact Take1.head | apply Take1.tail))))⟩) ?_
      rintro ⟨k4, n4, m4⟩ ⟨q4, v4⟩
      dsimp only [List.cons_append, List.nil_append] at q4 v4 ⊢
      have c4 := F.r3 m4 q4
      have v4g := mpg_of v4
      refine WD.one 34 (by kernel_rfl) ?_
      refine WO.callC (xs := [.tmp 105, .tmp 106]) (cap := []) rfl (.on rfl rfl) rfl rfl en18 (by repeat (first | exact TakeL.nil | (apply TakeL.cons; · repeat (first | exact Take1.head | apply Take1.tail)))) (fun w hw => can_any k4 n4 m4 v4g (some B) oB (show B.enc.length ≤ _ by omega) w (hw.get (by repeat (first | exact Take1.head | apply Take1.tail))) (hw.get (by repeat (first | exact Take1.head | apply Take1.tail)))) rfl (fun _ => ⟨_, (by repeat (first | exact TakeL.nil | (apply TakeL.cons; · repeat (first | exact Take1.head | apply Take1.tail))))⟩) ?_
      rintro ⟨⟩ -
      refine WD.know (t := 107) (b' := true) rfl c4 ?_
      refine WD.takeOn 35 rfl (by kernel_rfl) (by kernel_rfl) (by kernel_rfl) rfl rfl rfl rfl (Yl.not rfl) rfl ?_
      refine WD.take 36 rfl (by kernel_rfl) (by kernel_rfl) (by kernel_rfl) rfl rfl (Yl.pickF rfl rfl) rfl ?_
      refine WD.take 37 rfl (by kernel_rfl) (by kernel_rfl) (by kernel_rfl) rfl rfl (Yl.move rfl) rfl ?_
      refine WD.takeOn 38 rfl (by kernel_rfl) (by kernel_rfl) (by kernel_rfl) rfl rfl rfl rfl (Yl.move rfl) rfl ?_
      refine WD.takeOn 39 rfl (by kernel_rfl) (by kernel_rfl) (by kernel_rfl) rfl rfl rfl rfl (Yl.loadN ag34 rfl (by repeat (first | exact Take1.head | apply Take1.tail)) (by rfl) (show _ = tmC (some SH) from rfl)) rfl ?_
      refine WD.one 40 (by kernel_rfl) ?_
      refine WO.callC (xs := [.tmp 111, .tmp 112]) (cap := []) rfl (.on rfl rfl) rfl rfl en18 (by repeat (first | exact TakeL.nil | (apply TakeL.cons; · repeat (first | exact Take1.head | apply Take1.tail)))) (fun w hw => can_any k3 n3 m3 v3g (some SH) oSH (show SH.enc.length ≤ _ by omega) w (hw.get (by repeat (first | exact Take1.head | apply Take1.tail))) (hw.get (by repeat (first | exact Take1.head | apply Take1.tail)))) rfl (fun _ => ⟨_, (by repeat (first | exact TakeL.nil | (apply TakeL.cons; · repeat (first | exact Take1.head | apply Take1.tail))))⟩) ?_
      rintro ⟨⟩ -
      refine WD.know (t := 113) (b' := true) rfl c3s ?_
      refine WD.takeOn 41 rfl (by kernel_rfl) (by kernel_rfl) (by kernel_rfl) rfl rfl rfl rfl (Yl.not rfl) rfl ?_
      refine WD.take 42 rfl (by kernel_rfl) (by kernel_rfl) (by kernel_rfl) rfl rfl (Yl.pickF rfl rfl) rfl ?_
      refine WD.take 43 rfl (by kernel_rfl) (by kernel_rfl) (by kernel_rfl) rfl rfl (Yl.move rfl) rfl ?_
      refine WD.takeOn 44 rfl (by kernel_rfl) (by kernel_rfl) (by kernel_rfl) rfl rfl rfl rfl (Yl.move rfl) rfl ?_
      refine WD.takeOn 45 rfl (by kernel_rfl) (by kernel_rfl) (by kernel_rfl) rfl rfl rfl rfl (Yl.loadN ag34 rfl (by repeat (first | exact Take1.head | apply Take1.tail)) (by rfl) (show _ = tmC (some B) from rfl)) rfl ?_
      refine WD.one 46 (by kernel_rfl) ?_
      refine WO.callC (xs := [.tmp 117, .tmp 118]) (cap := []) rfl (.on rfl rfl) rfl rfl en18 (by repeat (first | exact TakeL.nil | (apply TakeL.cons; · repeat (first | exact Take1.head | apply Take1.tail)))) (fun w hw => can_any k3 n3 m3 v3g (some B) oB (show B.enc.length ≤ _ by omega) w (hw.get (by repeat (first | exact Take1.head | apply Take1.tail))) (hw.get (by repeat (first | exact Take1.head | apply Take1.tail)))) rfl (fun _ => ⟨_, (by repeat (first | exact TakeL.nil | (apply TakeL.cons; · repeat (first | exact Take1.head | apply Take1.tail))))⟩) ?_
      rintro ⟨⟩ -
      refine WD.know (t := 119) (b' := false) rfl c3b ?_
      refine WD.take 47 rfl (by kernel_rfl) (by kernel_rfl) (by kernel_rfl) rfl rfl (Yl.pickF rfl rfl) rfl ?_
      refine WD.take 48 rfl (by kernel_rfl) (by kernel_rfl) (by kernel_rfl) rfl rfl (Yl.move rfl) rfl ?_
      refine WD.takeOn 49 rfl (by kernel_rfl) (by kernel_rfl) (by kernel_rfl) rfl rfl rfl rfl (Yl.loadN ag34 rfl (by repeat (first | exact Take1.head | apply Take1.tail)) (by rfl) (show _ = tmC (some SH) from rfl)) rfl ?_
      refine WD.takeOn 50 rfl (by kernel_rfl) (by kernel_rfl) (by kernel_rfl) rfl rfl rfl rfl (Yl.loadN ag34 rfl (by repeat (first | exact Take1.head | apply Take1.tail)) (by rfl) (show _ = tmC (some SH) from rfl)) rfl ?_
      refine WD.takeOn 51 rfl (by kernel_rfl) (by kernel_rfl) (by kernel_rfl) rfl rfl rfl rfl (Yl.neqG rfl rfl (fun w => neM_op oSH oSH w)) rfl ?_
      refine WD.know (t := 124) (b' := false) rfl (by simp) ?_
      refine WD.take 52 rfl (by kernel_rfl) (by kernel_rfl) (by kernel_rfl) rfl rfl (Yl.pickF rfl rfl) rfl ?_
      refine WD.take 53 rfl (by kernel_rfl) (by kernel_rfl) (by kernel_rfl) rfl rfl (Yl.move rfl) rfl ?_
      refine WD.takeOn 54 rfl (by kernel_rfl) (by kernel_rfl) (by kernel_rfl) rfl rfl rfl rfl (Yl.move rfl) rfl ?_
      refine WD.takeOn 55 rfl (by kernel_rfl) (by kernel_rfl) (by kernel_rfl) rfl rfl rfl rfl (Yl.neq rfl rfl) rfl ?_
      refine WD.know (t := 128) (b' := false) rfl (by first | rfl | (simp; done) | (simp; omega)) ?_
      refine WD.take 56 rfl (by kernel_rfl) (by kernel_rfl) (by kernel_rfl) rfl rfl (Yl.pickF rfl rfl) rfl ?_
      refine WD.take 57 rfl (by kernel_rfl) (by kernel_rfl) (by kernel_rfl) rfl rfl (Yl.move rfl) rfl ?_
      refine WD.takeOn 58 rfl (by kernel_rfl) (by kernel_rfl) (by kernel_rfl) rfl rfl rfl rfl (Yl.move rfl) rfl ?_
      refine WD.takeOn 59 rfl (by kernel_rfl) (by kernel_rfl) (by kernel_rfl) rfl rfl rfl rfl (Yl.neq rfl rfl) rfl ?_
      refine WD.know (t := 132) (b' := false) rfl (by first | rfl | (simp; done) | (simp; omega)) ?_
      refine WD.take 60 rfl (by kernel_rfl) (by kernel_rfl) (by kernel_rfl) rfl rfl (Yl.pickF rfl rfl) rfl ?_
      refine WD.take 61 rfl (by kernel_rfl) (by kernel_rfl) (by kernel_rfl) rfl rfl (Yl.move rfl) rfl ?_
      refine WD.takeOn 62 rfl (by kernel_rfl) (by kernel_rfl) (by kernel_rfl) rfl rfl rfl rfl (Yl.move rfl) rfl ?_
      refine WD.takeOn 63 rfl (by kernel_rfl) (by kernel_rfl) (by kernel_rfl) rfl rfl rfl rfl (Yl.neq rfl rfl) rfl ?_
      refine WD.know (t := 136) (b' := false) rfl (by first | rfl | (simp; done) | (simp; omega)) ?_
      refine WD.take 64 rfl (by kernel_rfl) (by kernel_rfl) (by kernel_rfl) rfl rfl (Yl.pickF rfl rfl) rfl ?_
      refine WD.done (by kernel_rfl) ?_
      refine WC.condF rfl (by first | rfl | (simp; done) | (simp; omega)) ?_
      refine WC.skip ?_
      refine WC.seq ?_
      refine WC.region ?_
      refine WL.y (Yl.assign rfl) rfl ?_
      refine WL.nil ?_
      refine WC.seq ?_
      refine WC.region ?_
      refine WL.y (Yl.loadN ag34 rfl (by repeat (first | exact Take1.head | apply Take1.tail)) (by rfl) (show _ = tmC (some A) from rfl)) rfl ?_
      refine WL.y (Yl.loadN ag34 rfl (by repeat (first | exact Take1.head | apply Take1.tail)) (by rfl) (show _ = tmC (some B) from rfl)) rfl ?_
      refine WL.callC (xs := [.tmp 139, .tmp 140]) (cap := []) rfl rfl en20 (by repeat (first | exact TakeL.nil | (apply TakeL.cons; · repeat (first | exact Take1.head | apply Take1.tail)))) (fun w hw => pair_any (some A) (some B) oA oB (show A.enc.length + B.enc.length ≤ _ by omega) w hw.left.here) rfl ?_
      rintro ⟨⟩ -
      rw [F.e11]
      refine WL.callC (xs := [.tmp 141]) (cap := []) rfl rfl en25 (by repeat (first | exact TakeL.nil | (apply TakeL.cons; · repeat (first | exact Take1.head | apply Take1.tail)))) (fun w hw => (by have := split_any A B zA.1 zB.1 (show A.enc.length + B.enc.length ≤ _ by omega) w hw.left.here; rw [← F.p] at this; exact this)) rfl ?_
      rintro ⟨⟩ -
      refine WL.y (Yl.move rfl) rfl ?_
      refine WL.y (Yl.extract rfl rfl) rfl ?_
      refine WL.y (Yl.extract rfl rfl) rfl ?_
      refine WL.y (Yl.extract rfl rfl) rfl ?_
      refine WL.to (To.alloc (cs := [.string (strOfNums [])]) zr34 rfl) rfl ?_
      intro b14
      refine WL.to (To.alloc (cs := [.string (strOfNums [])]) zr34 rfl) rfl ?_
      intro b15
      refine WL.sto (Sto.agg sz34 rfl rfl (by repeat (first | exact Take1.head | apply Take1.tail)) (tm_ones _) rfl (by rfl) (show _ = tmC (some A) from rfl)) (fun _ h => nomatch h) ?_
      refine WL.sto (Sto.agg sz34 rfl rfl (by repeat (first | exact Take1.head | apply Take1.tail)) (tm_ones _) rfl (by rfl) (show _ = tmC (some B) from rfl)) (fun _ h => nomatch h) ?_
      refine WL.y (Yl.assign rfl) rfl ?_
      refine WL.nil ?_
      refine WC.seq ?_
      refine WC.region ?_
      refine WL.y (Yl.loadN ag34 rfl (by repeat (first | exact Take1.head | apply Take1.tail)) (by rfl) (show _ = tmC (some A) from rfl)) rfl ?_
      refine WL.callC (xs := [.tmp 147]) (cap := []) rfl rfl en25 (by repeat (first | exact TakeL.nil | (apply TakeL.cons; · repeat (first | exact Take1.head | apply Take1.tail)))) (fun w hw => splitNo_any (some A) oA (by rw [F.kd]; decide) w hw.left.here) rfl ?_
      rintro ⟨⟩ -
      refine WL.y (Yl.move rfl) rfl ?_
      refine WL.y (Yl.extract rfl rfl) rfl ?_
      refine WL.y (Yl.extract rfl rfl) rfl ?_
      refine WL.y (Yl.extract rfl rfl) rfl ?_
      refine WL.to (To.alloc (cs := [.string (strOfNums [])]) zr34 rfl) rfl ?_
      intro b17
      refine WL.to (To.alloc (cs := [.string (strOfNums [])]) zr34 rfl) rfl ?_
      intro b18
      refine WL.sto (Sto.agg sz34 rfl rfl (by repeat (first | exact Take1.head | apply Take1.tail)) (tm_ones none) rfl (by rfl) (show _ = tmC none from rfl)) (fun _ h => nomatch h) ?_
      refine WL.sto (Sto.agg sz34 rfl rfl (by repeat (first | exact Take1.head | apply Take1.tail)) (tm_ones none) rfl (by rfl) (show _ = tmC none from rfl)) (fun _ h => nomatch h) ?_
      refine WL.y (Yl.assign rfl) rfl ?_
      refine WL.nil ?_
      refine WC.midX (α := Nat) (fun b => [(20, .pointer (some ⟨b, 0, none⟩)), (21, .int .i64 0), (1, .pointer (some ⟨b1, 0, none⟩)), (2, .pointer (some ⟨b2, 0, none⟩)), (3, .pointer (some ⟨b3, 0, none⟩)), (14, .pointer (some ⟨b14, 0, none⟩)), (15, .pointer (some ⟨b15, 0, none⟩)), (4, .pointer (some ⟨k1, 0, none⟩)), (13, .pointer none), (16, .int .i64 0), (19, .int .i64 9)]) (fun b => [blkR b 34 (tmC (some B)), blkR b14 34 (tmC (some A)), blkR b15 34 (tmC (some B)), blkR b9 34 (tmC (some SH)), blkR b7 34 (tmC (some SH)), blkR b1 34 (tmC (some A)), blkR b2 34 (tmC (some B)), blkR b3 34 (tmC (some K)), blkR k1 78 [.map (some n1)], mapR tmV unV n1 m1, blkR k2 78 [.map (some n2)], mapR tmV unV n2 m2, blkR k3 78 [.map (some n3)], mapR tmV unV n3 m3]) (fun _ => True) ?_ ?_
      · refine WC.drawAny (Hs := [blkR b1 34 (tmC (some A)), blkR b2 34 (tmC (some B)), blkR b3 34 (tmC (some K))]) mixed (by kernel_rfl) ⟨_, (by repeat (first | exact TakeL.nil | (apply TakeL.cons; · repeat (first | exact Take1.head | apply Take1.tail))))⟩ ?_
        refine WD.take 0 rfl (by kernel_rfl) (by kernel_rfl) (by kernel_rfl) rfl rfl (Yl.loadN ag34 rfl (by repeat (first | exact Take1.head | apply Take1.tail)) (by rfl) (show _ = tmC (some K) from rfl)) rfl ?_
        refine WD.take 1 rfl (by kernel_rfl) (by kernel_rfl) (by kernel_rfl) rfl rfl (Yl.loadN ag34 rfl (by repeat (first | exact Take1.head | apply Take1.tail)) (by rfl) (show _ = tmC (some K) from rfl)) rfl ?_
        refine WD.take 2 rfl (by kernel_rfl) (by kernel_rfl) (by kernel_rfl) rfl rfl (Yl.loadN ag34 rfl (by repeat (first | exact Take1.head | apply Take1.tail)) (by rfl) (show _ = tmC (some B) from rfl)) rfl ?_
        refine WD.two 3 8 (by kernel_rfl) ?_ ?_
        · refine WO.callC (xs := [.tmp 154, .tmp 155]) (cap := []) rfl .no rfl rfl en15 (by repeat (first | exact TakeL.nil | (apply TakeL.cons; · repeat (first | exact Take1.head | apply Take1.tail)))) (fun w hw => sealed_any (some K) (some B) oK oB (show K.enc.length + B.enc.length ≤ _ by omega) w hw.left.here) rfl (fun _ => ⟨_, (by repeat (first | exact TakeL.nil | (apply TakeL.cons; · repeat (first | exact Take1.head | apply Take1.tail))))⟩) ?_
          rintro ⟨⟩ -
          rw [F.e1]
          refine WD.two 4 8 (by kernel_rfl) ?_ ?_
          · refine WO.callC (xs := [.tmp 153, .tmp 156]) (cap := []) rfl .no rfl rfl en26 (by repeat (first | exact TakeL.nil | (apply TakeL.cons; · repeat (first | exact Take1.head | apply Take1.tail)))) (fun w hw => (by have := open_any K B (some K) zK.1 zB.1 oK (show K.enc.length + B.enc.length ≤ _ by omega) w hw.left.here; rw [if_pos (lenE K), ← F.s] at this; exact this)) rfl (fun _ => ⟨_, (by repeat (first | exact TakeL.nil | (apply TakeL.cons; · repeat (first | exact Take1.head | apply Take1.tail))))⟩) ?_
            rintro ⟨⟩ -
            refine WD.take 5 rfl (by kernel_rfl) (by kernel_rfl) (by kernel_rfl) rfl rfl (Yl.move rfl) rfl ?_
            refine WD.take 6 rfl (by kernel_rfl) (by kernel_rfl) (by kernel_rfl) rfl rfl (Yl.extract rfl rfl) rfl ?_
            refine WD.take 7 rfl (by kernel_rfl) (by kernel_rfl) (by kernel_rfl) rfl rfl (Yl.extract rfl rfl) rfl ?_
            refine WD.one 8 (by kernel_rfl) ?_
            refine WO.to rfl rfl .no (To.alloc (cs := [.string (strOfNums [])]) zr34 rfl) rfl (fun _ => ⟨_, (by repeat (first | exact TakeL.nil | (apply TakeL.cons; · repeat (first | exact Take1.head | apply Take1.tail))))⟩) ?_
            intro b20
            refine WD.one 9 (by kernel_rfl) ?_
            refine WO.sto rfl rfl .no (Sto.agg sz34 rfl rfl (by repeat (first | exact Take1.head | apply Take1.tail)) (tm_ones _) rfl (by rfl) (show _ = tmC (some B) from rfl)) ⟨_, (by repeat (first | exact TakeL.nil | (apply TakeL.cons; · repeat (first | exact Take1.head | apply Take1.tail))))⟩ ?_
            refine WD.take 10 rfl (by kernel_rfl) (by kernel_rfl) (by kernel_rfl) rfl rfl (Yl.assign rfl) rfl ?_
            refine WD.done (by kernel_rfl) ?_
            exact ⟨rfl, _, trivial, (by repeat (first | exact Sub.nil | refine Sub.cons rfl ?_)), _, (by repeat (first | exact TakeL.nil | (apply TakeL.cons; · repeat (first | exact Take1.head | apply Take1.tail))))⟩
          · refine WO.to rfl rfl .no (To.alloc (cs := [.string (strOfNums [])]) zr34 rfl) rfl (fun _ => ⟨_, (by repeat (first | exact TakeL.nil | (apply TakeL.cons; · repeat (first | exact Take1.head | apply Take1.tail))))⟩) ?_
            intro b20
            refine WD.one 4 (by kernel_rfl) ?_
            refine WO.callC (xs := [.tmp 153, .tmp 156]) (cap := []) rfl .no rfl rfl en26 (by repeat (first | exact TakeL.nil | (apply TakeL.cons; · repeat (first | exact Take1.head | apply Take1.tail)))) (fun w hw => (by have := open_any K B (some K) zK.1 zB.1 oK (show K.enc.length + B.enc.length ≤ _ by omega) w hw.left.here; rw [if_pos (lenE K), ← F.s] at this; exact this)) rfl (fun _ => ⟨_, (by repeat (first | exact TakeL.nil | (apply TakeL.cons; · repeat (first | exact Take1.head | apply Take1.tail))))⟩) ?_
            rintro ⟨⟩ -
            refine WD.take 5 rfl (by kernel_rfl) (by kernel_rfl) (by kernel_rfl) rfl rfl (Yl.move rfl) rfl ?_
            refine WD.take 6 rfl (by kernel_rfl) (by kernel_rfl) (by kernel_rfl) rfl rfl (Yl.extract rfl rfl) rfl ?_
            refine WD.take 7 rfl (by kernel_rfl) (by kernel_rfl) (by kernel_rfl) rfl rfl (Yl.extract rfl rfl) rfl ?_
            refine WD.one 9 (by kernel_rfl) ?_
            refine WO.sto rfl rfl .no (Sto.agg sz34 rfl rfl (by repeat (first | exact Take1.head | apply Take1.tail)) (tm_ones _) rfl (by rfl) (show _ = tmC (some B) from rfl)) ⟨_, (by repeat (first | exact TakeL.nil | (apply TakeL.cons; · repeat (first | exact Take1.head | apply Take1.tail))))⟩ ?_
            refine WD.take 10 rfl (by kernel_rfl) (by kernel_rfl) (by kernel_rfl) rfl rfl (Yl.assign rfl) rfl ?_
            refine WD.done (by kernel_rfl) ?_
            exact ⟨rfl, _, trivial, (by repeat (first | exact Sub.nil | refine Sub.cons rfl ?_)), _, (by repeat (first | exact TakeL.nil | (apply TakeL.cons; · repeat (first | exact Take1.head | apply Take1.tail))))⟩
        · refine WO.to rfl rfl .no (To.alloc (cs := [.string (strOfNums [])]) zr34 rfl) rfl (fun _ => ⟨_, (by repeat (first | exact TakeL.nil | (apply TakeL.cons; · repeat (first | exact Take1.head | apply Take1.tail))))⟩) ?_
          intro b20
          refine WD.one 3 (by kernel_rfl) ?_
          refine WO.callC (xs := [.tmp 154, .tmp 155]) (cap := []) rfl .no rfl rfl en15 (by repeat (first | exact TakeL.nil | (apply TakeL.cons; · repeat (first | exact Take1.head | apply Take1.tail)))) (fun w hw => sealed_any (some K) (some B) oK oB (show K.enc.length + B.enc.length ≤ _ by omega) w hw.left.here) rfl (fun _ => ⟨_, (by repeat (first | exact TakeL.nil | (apply TakeL.cons; · repeat (first | exact Take1.head | apply Take1.tail))))⟩) ?_
          rintro ⟨⟩ -
          rw [F.e1]
          refine WD.one 4 (by kernel_rfl) ?_
          refine WO.callC (xs := [.tmp 153, .tmp 156]) (cap := []) rfl .no rfl rfl en26 (by repeat (first | exact TakeL.nil | (apply TakeL.cons; · repeat (first | exact Take1.head | apply Take1.tail)))) (fun w hw => (by have := open_any K B (some K) zK.1 zB.1 oK (show K.enc.length + B.enc.length ≤ _ by omega) w hw.left.here; rw [if_pos (lenE K), ← F.s] at this; exact this)) rfl (fun _ => ⟨_, (by repeat (first | exact TakeL.nil | (apply TakeL.cons; · repeat (first | exact Take1.head | apply Take1.tail))))⟩) ?_
          rintro ⟨⟩ -
          refine WD.take 5 rfl (by kernel_rfl) (by kernel_rfl) (by kernel_rfl) rfl rfl (Yl.move rfl) rfl ?_
          refine WD.take 6 rfl (by kernel_rfl) (by kernel_rfl) (by kernel_rfl) rfl rfl (Yl.extract rfl rfl) rfl ?_
          refine WD.take 7 rfl (by kernel_rfl) (by kernel_rfl) (by kernel_rfl) rfl rfl (Yl.extract rfl rfl) rfl ?_
          refine WD.one 9 (by kernel_rfl) ?_
          refine WO.sto rfl rfl .no (Sto.agg sz34 rfl rfl (by repeat (first | exact Take1.head | apply Take1.tail)) (tm_ones _) rfl (by rfl) (show _ = tmC (some B) from rfl)) ⟨_, (by repeat (first | exact TakeL.nil | (apply TakeL.cons; · repeat (first | exact Take1.head | apply Take1.tail))))⟩ ?_
          refine WD.take 10 rfl (by kernel_rfl) (by kernel_rfl) (by kernel_rfl) rfl rfl (Yl.assign rfl) rfl ?_
          refine WD.done (by kernel_rfl) ?_
          exact ⟨rfl, _, trivial, (by repeat (first | exact Sub.nil | refine Sub.cons rfl ?_)), _, (by repeat (first | exact TakeL.nil | (apply TakeL.cons; · repeat (first | exact Take1.head | apply Take1.tail))))⟩
      · intro b20 _
        refine WC.midX (α := Nat) (fun b => [(22, .pointer (some ⟨b, 0, none⟩)), (23, .int .i64 140), (1, .pointer (some ⟨b1, 0, none⟩)), (2, .pointer (some ⟨b2, 0, none⟩)), (3, .pointer (some ⟨b3, 0, none⟩)), (14, .pointer (some ⟨b14, 0, none⟩)), (15, .pointer (some ⟨b15, 0, none⟩)), (4, .pointer (some ⟨k1, 0, none⟩)), (13, .pointer none), (16, .int .i64 0), (19, .int .i64 9), (20, .pointer (some ⟨b20, 0, none⟩)), (21, .int .i64 0)]) (fun b => [blkR b 34 (tmC none), blkR b20 34 (tmC (some B)), blkR b14 34 (tmC (some A)), blkR b15 34 (tmC (some B)), blkR b9 34 (tmC (some SH)), blkR b7 34 (tmC (some SH)), blkR b1 34 (tmC (some A)), blkR b2 34 (tmC (some B)), blkR b3 34 (tmC (some K)), blkR k1 78 [.map (some n1)], mapR tmV unV n1 m1, blkR k2 78 [.map (some n2)], mapR tmV unV n2 m2, blkR k3 78 [.map (some n3)], mapR tmV unV n3 m3]) (fun _ => True) ?_ ?_
        · refine WC.drawAny (Hs := [blkR b1 34 (tmC (some A)), blkR b2 34 (tmC (some B)), blkR b3 34 (tmC (some K))]) mixed (by kernel_rfl) ⟨_, (by repeat (first | exact TakeL.nil | (apply TakeL.cons; · repeat (first | exact Take1.head | apply Take1.tail))))⟩ ?_
          refine WD.take 0 rfl (by kernel_rfl) (by kernel_rfl) (by kernel_rfl) rfl rfl (Yl.loadN ag34 rfl (by repeat (first | exact Take1.head | apply Take1.tail)) (by rfl) (show _ = tmC (some A) from rfl)) rfl ?_
          refine WD.take 1 rfl (by kernel_rfl) (by kernel_rfl) (by kernel_rfl) rfl rfl (Yl.loadN ag34 rfl (by repeat (first | exact Take1.head | apply Take1.tail)) (by rfl) (show _ = tmC (some K) from rfl)) rfl ?_
          refine WD.take 2 rfl (by kernel_rfl) (by kernel_rfl) (by kernel_rfl) rfl rfl (Yl.loadN ag34 rfl (by repeat (first | exact Take1.head | apply Take1.tail)) (by rfl) (show _ = tmC (some B) from rfl)) rfl ?_
          refine WD.two 3 8 (by kernel_rfl) ?_ ?_
          · refine WO.callC (xs := [.tmp 162, .tmp 163]) (cap := []) rfl .no rfl rfl en15 (by repeat (first | exact TakeL.nil | (apply TakeL.cons; · repeat (first | exact Take1.head | apply Take1.tail)))) (fun w hw => sealed_any (some K) (some B) oK oB (show K.enc.length + B.enc.length ≤ _ by omega) w hw.left.here) rfl (fun _ => ⟨_, (by repeat (first | exact TakeL.nil | (apply TakeL.cons; · repeat (first | exact Take1.head | apply Take1.tail))))⟩) ?_
            rintro ⟨⟩ -
            rw [F.e1]
            refine WD.two 4 8 (by kernel_rfl) ?_ ?_
            · refine WO.callC (xs := [.tmp 161, .tmp 164]) (cap := []) rfl .no rfl rfl en26 (by repeat (first | exact TakeL.nil | (apply TakeL.cons; · repeat (first | exact Take1.head | apply Take1.tail)))) (fun w hw => (by have := open_any K B (some A) zK.1 zB.1 oA (show K.enc.length + B.enc.length ≤ _ by omega) w hw.left.here; rw [if_neg F.kne, ← F.s] at this; exact this)) rfl (fun _ => ⟨_, (by repeat (first | exact TakeL.nil | (apply TakeL.cons; · repeat (first | exact Take1.head | apply Take1.tail))))⟩) ?_
              rintro ⟨⟩ -
              refine WD.take 5 rfl (by kernel_rfl) (by kernel_rfl) (by kernel_rfl) rfl rfl (Yl.move rfl) rfl ?_
              refine WD.take 6 rfl (by kernel_rfl) (by kernel_rfl) (by kernel_rfl) rfl rfl (Yl.extract rfl rfl) rfl ?_
              refine WD.take 7 rfl (by kernel_rfl) (by kernel_rfl) (by kernel_rfl) rfl rfl (Yl.extract rfl rfl) rfl ?_
              refine WD.one 8 (by kernel_rfl) ?_
              refine WO.to rfl rfl .no (To.alloc (cs := [.string (strOfNums [])]) zr34 rfl) rfl (fun _ => ⟨_, (by repeat (first | exact TakeL.nil | (apply TakeL.cons; · repeat (first | exact Take1.head | apply Take1.tail))))⟩) ?_
              intro b22
              refine WD.one 9 (by kernel_rfl) ?_
              refine WO.sto rfl rfl .no (Sto.agg sz34 rfl rfl (by repeat (first | exact Take1.head | apply Take1.tail)) (tm_ones none) rfl (by rfl) (show _ = tmC none from rfl)) ⟨_, (by repeat (first | exact TakeL.nil | (apply TakeL.cons; · repeat (first | exact Take1.head | apply Take1.tail))))⟩ ?_
              refine WD.take 10 rfl (by kernel_rfl) (by kernel_rfl) (by kernel_rfl) rfl rfl (Yl.assign rfl) rfl ?_
              refine WD.done (by kernel_rfl) ?_
              exact ⟨rfl, _, trivial, (by repeat (first | exact Sub.nil | refine Sub.cons rfl ?_)), _, (by repeat (first | exact TakeL.nil | (apply TakeL.cons; · repeat (first | exact Take1.head | apply Take1.tail))))⟩
            · refine WO.to rfl rfl .no (To.alloc (cs := [.string (strOfNums [])]) zr34 rfl) rfl (fun _ => ⟨_, (by repeat (first | exact TakeL.nil | (apply TakeL.cons; · repeat (first | exact Take1.head | apply Take1.tail))))⟩) ?_
              intro b22
              refine WD.one 4 (by kernel_rfl) ?_
              refine WO.callC (xs := [.tmp 161, .tmp 164]) (cap := []) rfl .no rfl rfl en26 (by repeat (first | exact TakeL.nil | (apply TakeL.cons; · repeat (first | exact Take1.head | apply Take1.tail)))) (fun w hw => (by have := open_any K B (some A) zK.1 zB.1 oA (show K.enc.length + B.enc.length ≤ _ by omega) w hw.left.here; rw [if_neg F.kne, ← F.s] at this; exact this)) rfl (fun _ => ⟨_, (by repeat (first | exact TakeL.nil | (apply TakeL.cons; · repeat (first | exact Take1.head | apply Take1.tail))))⟩) ?_
              rintro ⟨⟩ -
              refine WD.take 5 rfl (by kernel_rfl) (by kernel_rfl) (by kernel_rfl) rfl rfl (Yl.move rfl) rfl ?_
              refine WD.take 6 rfl (by kernel_rfl) (by kernel_rfl) (by kernel_rfl) rfl rfl (Yl.extract rfl rfl) rfl ?_
              refine WD.take 7 rfl (by kernel_rfl) (by kernel_rfl) (by kernel_rfl) rfl rfl (Yl.extract rfl rfl) rfl ?_
              refine WD.one 9 (by kernel_rfl) ?_
              refine WO.sto rfl rfl .no (Sto.agg sz34 rfl rfl (by repeat (first | exact Take1.head | apply Take1.tail)) (tm_ones none) rfl (by rfl) (show _ = tmC none from rfl)) ⟨_, (by repeat (first | exact TakeL.nil | (apply TakeL.cons; · repeat (first | exact Take1.head | apply Take1.tail))))⟩ ?_
              refine WD.take 10 rfl (by kernel_rfl) (by kernel_rfl) (by kernel_rfl) rfl rfl (Yl.assign rfl) rfl ?_
              refine WD.done (by kernel_rfl) ?_
              exact ⟨rfl, _, trivial, (by repeat (first | exact Sub.nil | refine Sub.cons rfl ?_)), _, (by repeat (first | exact TakeL.nil | (apply TakeL.cons; · repeat (first | exact Take1.head | apply Take1.tail))))⟩
          · refine WO.to rfl rfl .no (To.alloc (cs := [.string (strOfNums [])]) zr34 rfl) rfl (fun _ => ⟨_, (by repeat (first | exact TakeL.nil | (apply TakeL.cons; · repeat (first | exact Take1.head | apply Take1.tail))))⟩) ?_
            intro b22
            refine WD.one 3 (by kernel_rfl) ?_
            refine WO.callC (xs := [.tmp 162, .tmp 163]) (cap := []) rfl .no rfl rfl en15 (by repeat (first | exact TakeL.nil | (apply TakeL.cons; · repeat (first | exact Take1.head | apply Take1.tail)))) (fun w hw => sealed_any (some K) (some B) oK oB (show K.enc.length + B.enc.length ≤ _ by omega) w hw.left.here) rfl (fun _ => ⟨_, (by repeat (first | exact TakeL.nil | (apply TakeL.cons; · repeat (first | exact Take1.head | apply Take1.tail))))⟩) ?_
            rintro ⟨⟩ -
            rw [F.e1]
            refine WD.one 4 (by kernel_rfl) ?_
            refine WO.callC (xs := [.tmp 161, .tmp 164]) (cap := []) rfl .no rfl rfl en26 (by repeat (first | exact TakeL.nil | (apply TakeL.cons; · repeat (first | exact Take1.head | apply Take1.tail)))) (fun w hw => (by have := open_any K B (some A) zK.1 zB.1 oA (show K.enc.length + B.enc.length ≤ _ by omega) w hw.left.here; rw [if_neg F.kne, ← F.s] at this; exact this)) rfl (fun _ => ⟨_, (by repeat (first | exact TakeL.nil | (apply TakeL.cons; · repeat (first | exact Take1.head | apply Take1.tail))))⟩) ?_
            rintro ⟨⟩ -
            refine WD.take 5 rfl (by kernel_rfl) (by kernel_rfl) (by kernel_rfl) rfl rfl (Yl.move rfl) rfl ?_
            refine WD.take 6 rfl (by kernel_rfl) (by kernel_rfl) (by kernel_rfl) rfl rfl (Yl.extract rfl rfl) rfl ?_
            refine WD.take 7 rfl (by kernel_rfl) (by kernel_rfl) (by kernel_rfl) rfl rfl (Yl.extract rfl rfl) rfl ?_
            refine WD.one 9 (by kernel_rfl) ?_
            refine WO.sto rfl rfl .no (Sto.agg sz34 rfl rfl (by repeat (first | exact Take1.head | apply Take1.tail)) (tm_ones none) rfl (by rfl) (show _ = tmC none from rfl)) ⟨_, (by repeat (first | exact TakeL.nil | (apply TakeL.cons; · repeat (first | exact Take1.head | apply Take1.tail))))⟩ ?_
            refine WD.take 10 rfl (by kernel_rfl) (by kernel_rfl) (by kernel_rfl) rfl rfl (Yl.assign rfl) rfl ?_
            refine WD.done (by kernel_rfl) ?_
            exact ⟨rfl, _, trivial, (by repeat (first | exact Sub.nil | refine Sub.cons rfl ?_)), _, (by repeat (first | exact TakeL.nil | (apply TakeL.cons; · repeat (first | exact Take1.head | apply Take1.tail))))⟩
        · intro b22 _
          refine WC.seq ?_
          refine WC.region ?_
          refine WL.y (Yl.build rfl (cs := [.string (strOfNums [])]) (fun _ => by kernel_rfl)) rfl ?_
          refine WL.to (To.alloc (cs := [.string (strOfNums [])]) zr34 rfl) rfl ?_
          intro b24
          refine WL.sto (Sto.agg sz34 rfl rfl (by repeat (first | exact Take1.head | apply Take1.tail)) (tm_ones none) rfl (by rfl) (show _ = tmC none from rfl)) (fun _ h => nomatch h) ?_
          refine WL.nil ?_
          refine WC.seq ?_
          refine WC.drawAny (Hs := [blkR b24 34 (tmC none), blkR b20 34 (tmC (some B)), blkR b14 34 (tmC (some A)), blkR b15 34 (tmC (some B)), blkR b9 34 (tmC (some SH)), blkR b7 34 (tmC (some SH)), blkR b1 34 (tmC (some A)), blkR b2 34 (tmC (some B)), blkR b3 34 (tmC (some K)), blkR k1 78 [.map (some n1)], mapR tmV unV n1 m1, blkR k2 78 [.map (some n2)], mapR tmV unV n2 m2, blkR k3 78 [.map (some n3)], mapR tmV unV n3 m3]) mixed (by kernel_rfl) ⟨_, (by repeat (first | exact TakeL.nil | (apply TakeL.cons; · repeat (first | exact Take1.head | apply Take1.tail))))⟩ ?_
          refine WD.take 0 rfl (by kernel_rfl) (by kernel_rfl) (by kernel_rfl) rfl rfl (Yl.loadN ag34 rfl (by repeat (first | exact Take1.head | apply Take1.tail)) (by rfl) (show _ = tmC (some A) from rfl)) rfl ?_
          refine WD.take 1 rfl (by kernel_rfl) (by kernel_rfl) (by kernel_rfl) rfl rfl (Yl.loadN ag34 rfl (by repeat (first | exact Take1.head | apply Take1.tail)) (by rfl) (show _ = tmC (some A) from rfl)) rfl ?_
          refine WD.take 2 rfl (by kernel_rfl) (by kernel_rfl) (by kernel_rfl) rfl rfl (Yl.eqlG rfl rfl (fun w => eqM_op oA oA w)) rfl ?_
          refine WD.know (t := 171) (b' := true) rfl (by simp) ?_
          refine WD.take 3 rfl (by kernel_rfl) (by kernel_rfl) (by kernel_rfl) rfl rfl (Yl.move rfl) rfl ?_
          refine WD.takeOn 4 rfl (by kernel_rfl) (by kernel_rfl) (by kernel_rfl) rfl rfl rfl rfl (Yl.loadN ag34 rfl (by repeat (first | exact Take1.head | apply Take1.tail)) (by rfl) (show _ = tmC (some B) from rfl)) rfl ?_
          refine WD.takeOn 5 rfl (by kernel_rfl) (by kernel_rfl) (by kernel_rfl) rfl rfl rfl rfl (Yl.loadN ag34 rfl (by repeat (first | exact Take1.head | apply Take1.tail)) (by rfl) (show _ = tmC (some B) from rfl)) rfl ?_
          refine WD.takeOn 6 rfl (by kernel_rfl) (by kernel_rfl) (by kernel_rfl) rfl rfl rfl rfl (Yl.eqlG rfl rfl (fun w => eqM_op oB oB w)) rfl ?_
          refine WD.know (t := 175) (b' := true) rfl (by simp) ?_
          refine WD.take 7 rfl (by kernel_rfl) (by kernel_rfl) (by kernel_rfl) rfl rfl (Yl.pickT rfl rfl) rfl ?_
          refine WD.take 8 rfl (by kernel_rfl) (by kernel_rfl) (by kernel_rfl) rfl rfl (Yl.move rfl) rfl ?_
          refine WD.takeOn 9 rfl (by kernel_rfl) (by kernel_rfl) (by kernel_rfl) rfl rfl rfl rfl (Yl.move rfl) rfl ?_
          refine WD.takeOn 10 rfl (by kernel_rfl) (by kernel_rfl) (by kernel_rfl) rfl rfl rfl rfl (Yl.eql rfl rfl) rfl ?_
          refine WD.know (t := 179) (b' := true) rfl (by first | rfl | (simp; done) | (simp; omega)) ?_
          refine WD.take 11 rfl (by kernel_rfl) (by kernel_rfl) (by kernel_rfl) rfl rfl (Yl.pickT rfl rfl) rfl ?_
          refine WD.take 12 rfl (by kernel_rfl) (by kernel_rfl) (by kernel_rfl) rfl rfl (Yl.move rfl) rfl ?_
          refine WD.takeOn 13 rfl (by kernel_rfl) (by kernel_rfl) (by kernel_rfl) rfl rfl rfl rfl (Yl.move rfl) rfl ?_
          refine WD.takeOn 14 rfl (by kernel_rfl) (by kernel_rfl) (by kernel_rfl) rfl rfl rfl rfl (Yl.eql rfl rfl) rfl ?_
          refine WD.know (t := 183) (b' := true) rfl (by first | rfl | (simp; done) | (simp; omega)) ?_
          refine WD.take 15 rfl (by kernel_rfl) (by kernel_rfl) (by kernel_rfl) rfl rfl (Yl.pickT rfl rfl) rfl ?_
          refine WD.take 16 rfl (by kernel_rfl) (by kernel_rfl) (by kernel_rfl) rfl rfl (Yl.move rfl) rfl ?_
          refine WD.takeOn 17 rfl (by kernel_rfl) (by kernel_rfl) (by kernel_rfl) rfl rfl rfl rfl (Yl.loadN ag34 rfl (by repeat (first | exact Take1.head | apply Take1.tail)) (by rfl) (show _ = tmC (some B) from rfl)) rfl ?_
          refine WD.takeOn 18 rfl (by kernel_rfl) (by kernel_rfl) (by kernel_rfl) rfl rfl rfl rfl (Yl.loadN ag34 rfl (by repeat (first | exact Take1.head | apply Take1.tail)) (by rfl) (show _ = tmC (some B) from rfl)) rfl ?_
          refine WD.takeOn 19 rfl (by kernel_rfl) (by kernel_rfl) (by kernel_rfl) rfl rfl rfl rfl (Yl.eqlG rfl rfl (fun w => eqM_op oB oB w)) rfl ?_
          refine WD.know (t := 188) (b' := true) rfl (by simp) ?_
          refine WD.take 20 rfl (by kernel_rfl) (by kernel_rfl) (by kernel_rfl) rfl rfl (Yl.pickT rfl rfl) rfl ?_
          refine WD.take 21 rfl (by kernel_rfl) (by kernel_rfl) (by kernel_rfl) rfl rfl (Yl.move rfl) rfl ?_
          refine WD.takeOn 22 rfl (by kernel_rfl) (by kernel_rfl) (by kernel_rfl) rfl rfl rfl rfl (Yl.move rfl) rfl ?_
          refine WD.takeOn 23 rfl (by kernel_rfl) (by kernel_rfl) (by kernel_rfl) rfl rfl rfl rfl (Yl.eql rfl rfl) rfl ?_
          refine WD.know (t := 192) (b' := true) rfl (by first | rfl | (simp; done) | (simp; omega)) ?_
          refine WD.take 24 rfl (by kernel_rfl) (by kernel_rfl) (by kernel_rfl) rfl rfl (Yl.pickT rfl rfl) rfl ?_
          refine WD.take 25 rfl (by kernel_rfl) (by kernel_rfl) (by kernel_rfl) rfl rfl (Yl.move rfl) rfl ?_
          refine WD.takeOn 26 rfl (by kernel_rfl) (by kernel_rfl) (by kernel_rfl) rfl rfl rfl rfl (Yl.move rfl) rfl ?_
          refine WD.takeOn 27 rfl (by kernel_rfl) (by kernel_rfl) (by kernel_rfl) rfl rfl rfl rfl (Yl.eql rfl rfl) rfl ?_
          refine WD.know (t := 196) (b' := true) rfl (by first | rfl | (simp; done) | (simp; omega)) ?_
          refine WD.take 28 rfl (by kernel_rfl) (by kernel_rfl) (by kernel_rfl) rfl rfl (Yl.pickT rfl rfl) rfl ?_
          refine WD.take 29 rfl (by kernel_rfl) (by kernel_rfl) (by kernel_rfl) rfl rfl (Yl.move rfl) rfl ?_
          refine WD.takeOn 30 rfl (by kernel_rfl) (by kernel_rfl) (by kernel_rfl) rfl rfl rfl rfl (Yl.move rfl) rfl ?_
          refine WD.takeOn 31 rfl (by kernel_rfl) (by kernel_rfl) (by kernel_rfl) rfl rfl rfl rfl (Yl.loadN ag34 rfl (by repeat (first | exact Take1.head | apply Take1.tail)) (by rfl) (show _ = tmC (some A) from rfl)) rfl ?_
          refine WD.one 32 (by kernel_rfl) ?_
          refine WO.callC (xs := [.tmp 199, .tmp 200]) (cap := []) rfl (.on rfl rfl) rfl rfl en18 (by repeat (first | exact TakeL.nil | (apply TakeL.cons; · repeat (first | exact Take1.head | apply Take1.tail)))) (fun w hw => canNil_any (some A) w hw.left.here) rfl (fun _ => ⟨_, (by repeat (first | exact TakeL.nil | (apply TakeL.cons; · repeat (first | exact Take1.head | apply Take1.tail))))⟩) ?_
          rintro ⟨⟩ -
          refine WD.know (t := 201) (b' := false) rfl rfl ?_
          refine WD.takeOn 33 rfl (by kernel_rfl) (by kernel_rfl) (by kernel_rfl) rfl rfl rfl rfl (Yl.not rfl) rfl ?_
          refine WD.take 34 rfl (by kernel_rfl) (by kernel_rfl) (by kernel_rfl) rfl rfl (Yl.pickT rfl rfl) rfl ?_
          refine WD.take 35 rfl (by kernel_rfl) (by kernel_rfl) (by kernel_rfl) rfl rfl (Yl.move rfl) rfl ?_
          refine WD.takeOn 36 rfl (by kernel_rfl) (by kernel_rfl) (by kernel_rfl) rfl rfl rfl rfl (Yl.loadN ag34 rfl (by repeat (first | exact Take1.head | apply Take1.tail)) (by rfl) (show _ = tmC none from rfl)) rfl ?_
          refine WD.one 37 (by kernel_rfl) ?_
          refine WO.callC (xs := [.tmp 205]) (cap := []) rfl (.on rfl rfl) rfl rfl en11 (by repeat (first | exact TakeL.nil | (apply TakeL.cons; · repeat (first | exact Take1.head | apply Take1.tail)))) (fun w hw => kind_any none oN w hw.left.here) rfl (fun _ => ⟨_, (by repeat (first | exact TakeL.nil | (apply TakeL.cons; · repeat (first | exact Take1.head | apply Take1.tail))))⟩) ?_
          rintro ⟨⟩ -
          refine WD.say (t := 206) (v' := .int .u8 0) rfl (by rfl) ?_
          refine WD.takeOn 38 rfl (by kernel_rfl) (by kernel_rfl) (by kernel_rfl) rfl rfl rfl rfl (Yl.eql rfl rfl) rfl ?_
          refine WD.know (t := 207) (b' := true) rfl (by first | rfl | (simp; done) | (simp; omega)) ?_
          refine WD.take 39 rfl (by kernel_rfl) (by kernel_rfl) (by kernel_rfl) rfl rfl (Yl.pickT rfl rfl) rfl ?_
          refine WD.take 40 rfl (by kernel_rfl) (by kernel_rfl) (by kernel_rfl) rfl rfl (Yl.move rfl) rfl ?_
          refine WD.takeOn 41 rfl (by kernel_rfl) (by kernel_rfl) (by kernel_rfl) rfl rfl rfl rfl (Yl.loadN ag34 rfl (by repeat (first | exact Take1.head | apply Take1.tail)) (by rfl) (show _ = tmC none from rfl)) rfl ?_
          refine WD.one 42 (by kernel_rfl) ?_
          refine WO.callC (xs := [.tmp 210]) (cap := []) rfl (.on rfl rfl) rfl rfl en12 (by repeat (first | exact TakeL.nil | (apply TakeL.cons; · repeat (first | exact Take1.head | apply Take1.tail)))) (fun w hw => number_any none oN w hw.left.here) rfl (fun _ => ⟨_, (by repeat (first | exact TakeL.nil | (apply TakeL.cons; · repeat (first | exact Take1.head | apply Take1.tail))))⟩) ?_
          rintro ⟨⟩ -
          refine WD.say (t := 211) (v' := .int .u64 0) rfl (by rfl) ?_
          refine WD.takeOn 43 rfl (by kernel_rfl) (by kernel_rfl) (by kernel_rfl) rfl rfl rfl rfl (Yl.eql rfl rfl) rfl ?_
          refine WD.know (t := 212) (b' := true) rfl (by first | rfl | (simp; done) | (simp; omega)) ?_
          refine WD.take 44 rfl (by kernel_rfl) (by kernel_rfl) (by kernel_rfl) rfl rfl (Yl.pickT rfl rfl) rfl ?_
          refine WD.take 45 rfl (by kernel_rfl) (by kernel_rfl) (by kernel_rfl) rfl rfl (Yl.move rfl) rfl ?_
          refine WD.takeOn 46 rfl (by kernel_rfl) (by kernel_rfl) (by kernel_rfl) rfl rfl rfl rfl (Yl.loadN ag34 rfl (by repeat (first | exact Take1.head | apply Take1.tail)) (by rfl) (show _ = tmC (some A) from rfl)) rfl ?_
          refine WD.takeOn 47 rfl (by kernel_rfl) (by kernel_rfl) (by kernel_rfl) rfl rfl rfl rfl (Yl.loadN ag34 rfl (by repeat (first | exact Take1.head | apply Take1.tail)) (by rfl) (show _ = tmC none from rfl)) rfl ?_
          refine WD.takeOn 49 rfl (by kernel_rfl) (by kernel_rfl) (by kernel_rfl) rfl rfl rfl rfl (Yl.loadN ag34 rfl (by repeat (first | exact Take1.head | apply Take1.tail)) (by rfl) (show _ = tmC none from rfl)) rfl ?_
          refine WD.one 48 (by kernel_rfl) ?_
          refine WO.callC (xs := [.tmp 215, .tmp 216]) (cap := []) rfl (.on rfl rfl) rfl rfl en20 (by repeat (first | exact TakeL.nil | (apply TakeL.cons; · repeat (first | exact Take1.head | apply Take1.tail)))) (fun w hw => pair_any (some A) none oA oN (show A.enc.length + 0 ≤ _ by omega) w hw.left.here) rfl (fun _ => ⟨_, (by repeat (first | exact TakeL.nil | (apply TakeL.cons; · repeat (first | exact Take1.head | apply Take1.tail))))⟩) ?_
          rintro ⟨⟩ -
          rw [show mkO 2 (some A) none = none from rfl]
          refine WD.takeOn 50 rfl (by kernel_rfl) (by kernel_rfl) (by kernel_rfl) rfl rfl rfl rfl (Yl.eqlG rfl rfl (fun w => eqM_op oN oN w)) rfl ?_
          refine WD.know (t := 219) (b' := true) rfl (by simp) ?_
          refine WD.take 51 rfl (by kernel_rfl) (by kernel_rfl) (by kernel_rfl) rfl rfl (Yl.pickT rfl rfl) rfl ?_
          refine WD.take 52 rfl (by kernel_rfl) (by kernel_rfl) (by kernel_rfl) rfl rfl (Yl.move rfl) rfl ?_
          refine WD.takeOn 53 rfl (by kernel_rfl) (by kernel_rfl) (by kernel_rfl) rfl rfl rfl rfl (Yl.loadN ag34 rfl (by repeat (first | exact Take1.head | apply Take1.tail)) (by rfl) (show _ = tmC (some A) from rfl)) rfl ?_
          refine WD.one 54 (by kernel_rfl) ?_
          refine WO.callC (xs := [.tmp 222]) (cap := []) rfl (.on rfl rfl) rfl rfl en12 (by repeat (first | exact TakeL.nil | (apply TakeL.cons; · repeat (first | exact Take1.head | apply Take1.tail)))) (fun w hw => number_any (some A) oA w hw.left.here) rfl (fun _ => ⟨_, (by repeat (first | exact TakeL.nil | (apply TakeL.cons; · repeat (first | exact Take1.head | apply Take1.tail))))⟩) ?_
          rintro ⟨⟩ -
          rw [F.nu]
          refine WD.takeOn 55 rfl (by kernel_rfl) (by kernel_rfl) (by kernel_rfl) rfl rfl rfl rfl (Yl.eql rfl rfl) rfl ?_
          refine WD.know (t := 224) (b' := true) rfl (by first | rfl | (simp; done) | (simp; omega)) ?_
          refine WD.take 56 rfl (by kernel_rfl) (by kernel_rfl) (by kernel_rfl) rfl rfl (Yl.pickT rfl rfl) rfl ?_
          refine WD.take 57 rfl (by kernel_rfl) (by kernel_rfl) (by kernel_rfl) rfl rfl (Yl.move rfl) rfl ?_
          refine WD.takeOn 58 rfl (by kernel_rfl) (by kernel_rfl) (by kernel_rfl) rfl rfl rfl rfl (Yl.loadN ag34 rfl (by repeat (first | exact Take1.head | apply Take1.tail)) (by rfl) (show _ = tmC (some A) from rfl)) rfl ?_
          refine WD.one 59 (by kernel_rfl) ?_
          refine WO.callC (xs := [.tmp 227]) (cap := []) rfl (.on rfl rfl) rfl rfl en11 (by repeat (first | exact TakeL.nil | (apply TakeL.cons; · repeat (first | exact Take1.head | apply Take1.tail)))) (fun w hw => kind_any (some A) oA w hw.left.here) rfl (fun _ => ⟨_, (by repeat (first | exact TakeL.nil | (apply TakeL.cons; · repeat (first | exact Take1.head | apply Take1.tail))))⟩) ?_
          rintro ⟨⟩ -
          rw [F.kd]
          refine WD.takeOn 60 rfl (by kernel_rfl) (by kernel_rfl) (by kernel_rfl) rfl rfl rfl rfl (Yl.eql rfl rfl) rfl ?_
          refine WD.know (t := 229) (b' := true) rfl (by first | rfl | (simp; done) | (simp; omega)) ?_
          refine WD.take 61 rfl (by kernel_rfl) (by kernel_rfl) (by kernel_rfl) rfl rfl (Yl.pickT rfl rfl) rfl ?_
          refine WD.take 62 rfl (by kernel_rfl) (by kernel_rfl) (by kernel_rfl) rfl rfl (Yl.move rfl) rfl ?_
          refine WD.takeOn 63 rfl (by kernel_rfl) (by kernel_rfl) (by kernel_rfl) rfl rfl rfl rfl (Yl.move rfl) rfl ?_
          refine WD.takeOn 64 rfl (by kernel_rfl) (by kernel_rfl) (by kernel_rfl) rfl rfl rfl rfl (Yl.loadN ag34 rfl (by repeat (first | exact Take1.head | apply Take1.tail)) (by rfl) (show _ = tmC none from rfl)) rfl ?_
          refine WD.one 65 (by kernel_rfl) ?_
          refine WO.callC (xs := [.tmp 232, .tmp 233]) (cap := []) rfl (.on rfl rfl) rfl rfl en18 (by repeat (first | exact TakeL.nil | (apply TakeL.cons; · repeat (first | exact Take1.head | apply Take1.tail)))) (fun w hw => can_any k1 n1 m1 v1g none oN (by decide) w (hw.get (by repeat (first | exact Take1.head | apply Take1.tail))) (hw.get (by repeat (first | exact Take1.head | apply Take1.tail)))) rfl (fun _ => ⟨_, (by repeat (first | exact TakeL.nil | (apply TakeL.cons; · repeat (first | exact Take1.head | apply Take1.tail))))⟩) ?_
          rintro ⟨⟩ -
          rw [canB_none]
          refine WD.know (t := 234) (b' := false) rfl rfl ?_
          refine WD.takeOn 66 rfl (by kernel_rfl) (by kernel_rfl) (by kernel_rfl) rfl rfl rfl rfl (Yl.not rfl) rfl ?_
          refine WD.take 67 rfl (by kernel_rfl) (by kernel_rfl) (by kernel_rfl) rfl rfl (Yl.pickT rfl rfl) rfl ?_
          refine WD.say (t := 236) (v' := .bool true) rfl (by rfl) ?_
          refine WD.take 68 rfl (by kernel_rfl) (by kernel_rfl) (by kernel_rfl) rfl rfl (Yl.assign rfl) rfl ?_
          refine WD.done (by kernel_rfl) ?_
          refine WC.ret ?_
          repeat (first | (with_reducible refine peelT ?_) | (with_reducible refine peelB ?_) | (with_reducible refine peelTX ?_) | (with_reducible refine peelBX ?_) | (with_reducible refine peelBN ?_) | (with_reducible refine peelBO rfl ?_))
          exact ret1 (.inr rfl) Try.results6 rfl fun w' h => ⟨(), trivial, rfl, h.sub (by repeat (first | exact TakeL.nil | (apply TakeL.cons; · repeat (first | exact Take1.head | apply Take1.tail))))⟩
end Go.Proofs.Ytifhkjcimhhaiaa
