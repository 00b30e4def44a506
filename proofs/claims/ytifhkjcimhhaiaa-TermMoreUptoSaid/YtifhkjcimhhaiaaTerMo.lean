/- More terms, fresh ones: plain laws. -/
import Derived.Test.YtifhkjcimhhaiaaTerCp
import Derived.Test.YtifhkjcimhhaiaaTerCo
namespace Go.Proofs.Ytifhkjcimhhaiaa
open Go Go.RowKit
theorem RdOf.twin {v o : Value} {e size n m : Nat} {cs xs : List Value} : RdOf (twinR v e size n cs o m xs) v size n cs := ⟨fun _ h => Sown.rd h.1⟩
theorem RdOf.twinO {v o : Value} {e size n m : Nat} {cs xs : List Value} : RdOf (twinR v e size n cs o m xs) o size m xs := ⟨fun _ h => h.2⟩
/-- What is given so far. -/
structure GJ (T : List (Option Tm)) (i : Nat) (g : List (Option Tm)) : Prop where
  le : g.length ≤ i ∧ g.length ≤ T.length
  mem : ∀ o ∈ g, o ∈ T
theorem GJ.start (T : List (Option Tm)) : GJ T 0 [] := ⟨⟨Nat.le_refl _, Nat.zero_le _⟩, (fun o h => nomatch h)⟩
theorem GJ.skip {T : List (Option Tm)} {i : Nat} {g : List (Option Tm)} (h : GJ T i g) : GJ T (i + 1) g := ⟨⟨Nat.le_succ_of_le h.le.1, h.le.2⟩, h.mem⟩
theorem GJ.put {T : List (Option Tm)} {i : Nat} {g : List (Option Tm)} (h : GJ T i g) {o : Option Tm} (hi : T[i]? = some o) : GJ T (i + 1) (g ++ [o]) := by
  have hl := (List.getElem?_eq_some_iff.1 hi).1
  refine ⟨by have := h.le; simp; omega, fun q hq => ?_⟩
  rcases List.mem_append.1 hq with hq | hq
  · exact h.mem q hq
  · rw [List.mem_singleton.1 hq]; exact List.mem_of_getElem? hi
theorem gv_app (g x : List (Option Tm)) (t : Tm) : GvT (g ++ x) t ↔ GvT g t ∨ GvT x t := by unfold GvT; rw [List.mem_append]
theorem can_grow {g x : List (Option Tm)} {m m2 : MpT} (h : ∀ t, inM m t ↔ ClP (GvT g) t) (h2 : ∀ t, inM m2 t ↔ ClP (GvT (g ++ x)) t) {o : Option Tm} (hc : canB m o = true) : canB m2 o = true := by
  cases o with
  | none => cases hc
  | some t =>
    rw [canB_iff] at hc ⊢
    exact can_mono (fun t q => (h2 t).2 (cl_mono (fun t q => (gv_app g x t).2 (.inl q)) t ((h t).1 q))) t hc
theorem can_again {g x : List (Option Tm)} {m m2 : MpT} (h : ∀ t, inM m t ↔ ClP (GvT g) t) (h2 : ∀ t, inM m2 t ↔ ClP (GvT (g ++ x)) t) (hx : ∀ o ∈ x, canB m o = true) (o : Option Tm) : canB m2 o = canB m o := by
  cases o with
  | none => rfl
  | some t =>
    rw [Bool.eq_iff_iff, canB_iff, canB_iff, canP_congr h t, canP_congr (fun t => (h2 t).trans (cl_congr (fun t => gv_app g x t) t)) t]
    refine again_can (g := GvT g) (c := GvT x) (fun t ht => ?_) t
    exact (canP_congr h t).1 (canB_iff.1 (hx _ ht))
/-- The terms that nobody has. -/
structure Fr (FR LK SX HX H2 PX : Tm) : Prop where
  f1 : atomT 9223372036854775808 = FR
  f2 : atomT 9223372036854775809 = LK
  ok : ∀ t ∈ [FR, LK, SX, HX, H2, PX], t.ok ∧ t.enc.length ≤ 100
  e1 : mkO 4 (some LK) (some FR) = some SX
  e2 : hashO 1 [some FR] = some HX
  e3 : hashO 2 [some LK, some FR] = some H2
  e4 : pubO (some LK) = some PX
  no : ∀ (g : List (Option Tm)) (m : MpT), (∀ t, some t ∈ g → gdT t) → (∀ t, inM m t ↔ ClP (GvT (g ++ [some SX, some HX, some H2, some PX])) t) → canB m (some FR) = false ∧ canB m (some LK) = false ∧ canB m (some HX) = true
theorem fr_all : Fr frT lkT (sealT lkT frT) (hashT 1 [frT]) (hashT 2 [lkT, frT]) (pubT lkT) := by
  have oa : frT.ok := atom_ok (by decide)
  have ob : lkT.ok := atom_ok (by decide)
  have la : frT.enc.length = 9 := atom_len _
  have lb : lkT.enc.length = 9 := atom_len _
  refine ⟨rfl, rfl, ?_, rfl, rfl, rfl, rfl, fun g m hg h => ?_⟩
  · intro t ht
    simp only [List.mem_cons, List.not_mem_nil, or_false] at ht
    rcases ht with rfl | rfl | rfl | rfl | rfl | rfl
    · exact ⟨oa, by omega⟩
    · exact ⟨ob, by omega⟩
    · exact ⟨seal_ok ob oa, by rw [seal_len]; omega⟩
    · exact ⟨hash_ok (by decide) (by decide) (by simp [oa]), by rw [hash_len, encs_len1]; omega⟩
    · exact ⟨hash_ok (by decide) (by decide) (by simp [oa, ob]), by rw [hash_len, encs_len2]; omega⟩
    · exact ⟨pub_ok ob, by rw [pub_len]; omega⟩
  · have e : ∀ t, GvT (g ++ [some (sealT lkT frT), some (hashT 1 [frT]), some (hashT 2 [lkT, frT]), some (pubT lkT)]) t ↔ GvT g t ∨ xtraT t := by
      intro t
      rw [gv_app]
      refine or_congr Iff.rfl ?_
      unfold GvT xtraT
      simp
    have h2 : ∀ t, inM m t ↔ ClP (fun t => GvT g t ∨ xtraT t) t := fun t => (h t).trans (cl_congr e t)
    obtain ⟨n1, n2⟩ := fresh_no (g := GvT g) hg
    refine ⟨?_, ?_, ?_⟩
    · rw [Bool.eq_false_iff]; exact fun q => n1 ((canP_congr h2 _).1 (canB_iff.1 q))
    · rw [Bool.eq_false_iff]; exact fun q => n2 ((canP_congr h2 _).1 (canB_iff.1 q))
    · rw [canB_iff]; exact can_in ((h2 _).2 (cl_in (.inr (.inr (.inl rfl)))))
theorem fr_some : ∃ FR LK SX HX H2 PX, Fr FR LK SX HX H2 PX := ⟨_, _, _, _, _, _, fr_all⟩
/-! ### What is built of what can be built -/
theorem cb_mk {m : MpT} {k : Int} (h1 : k ≠ 1) (h6 : k ≠ 6) {t u : Tm} (ht : canB m (some t) = true) (hu : canB m (some u) = true) : canB m (mkO k (some t) (some u)) = true := by
  show canB m (some (.mk k 0 [t, u])) = true
  rw [canB_iff] at *
  exact (can_all _ h1 h6).2 (.inr (by simp [ht, hu]))
theorem cb_hash {m : MpT} {t u : Tm} (n : Int) (ht : canB m (some t) = true) (hu : canB m (some u) = true) : canB m (hashO n [some t, some u]) = true := by
  show canB m (some (.mk 3 n [t, u])) = true
  rw [canB_iff] at *
  exact (can_all _ (by decide) (by decide)).2 (.inr (by simp [ht, hu]))
theorem cb_pub {m : MpT} {t : Tm} (ht : canB m (some t) = true) : canB m (pubO (some t)) = true := by
  show canB m (some (pubT t)) = true
  rw [canB_iff] at *
  exact (can_pub _ _).2 (.inr ht)
theorem sh_pub (t u : Tm) : shO (some t) (pubO (some u)) = some (shT t u) := rfl
theorem cb_sh {m : MpT} {t u : Tm} (ht : canB m (some t) = true) (hu : canB m (some u) = true) : canB m (some (shT t u)) = true := by
  rw [canB_iff] at *
  exact (can_sh _ _ _).2 (.inr (.inl ⟨ht, .inr hu⟩))
noncomputable def canF (m : MpT) (T : List (Option Tm)) : List (Option Tm) := T.filter fun o => canB m o
theorem canF_next {m : MpT} {T : List (Option Tm)} {i : Nat} {o : Option Tm} (h : T[i]? = some o) : canF m (T.take (i + 1)) = canF m (T.take i) ++ if canB m o then [o] else [] := by
  unfold canF
  rw [← take_snoc _ _ _ h, List.filter_append]
  congr 1
  cases hb : canB m o with
  | true => rw [List.filter_cons_of_pos (by simpa using hb)]; rfl
  | false => rw [List.filter_cons_of_neg (by simp [hb])]; rfl
theorem canF_mem {m : MpT} {T : List (Option Tm)} {o : Option Tm} (h : o ∈ canF m T) : o ∈ T ∧ canB m o = true := by
  obtain ⟨a, b⟩ := List.mem_filter.1 h
  exact ⟨a, b⟩
theorem canF_len (m : MpT) (T : List (Option Tm)) : (canF m T).length ≤ T.length := List.length_filter_le _ _
theorem canF_some {m : MpT} {T : List (Option Tm)} {i : Nat} {o : Option Tm} (h : (canF m T)[i]? = some o) : ∃ t, o = some t ∧ some t ∈ T ∧ canB m (some t) = true := by
  obtain ⟨a, b⟩ := canF_mem (List.mem_of_getElem? h)
  cases o with
  | none => cases b
  | some t => exact ⟨t, rfl, a, b⟩
theorem wLs_x {x : List (Option Tm)} (h : ∀ o ∈ x, (encO o).length ≤ 100) : wLs x ≤ 201 * x.length := by
  induction x with
  | nil => simp [wLs]
  | cons o l ih =>
    have h1 := h o (by simp)
    have h2 := ih fun x hx => h x (by simp [hx])
    have e : wLs (o :: l) = wO o + wLs l := rfl
    rw [e, List.length_cons]
    unfold wO
    omega
end Go.Proofs.Ytifhkjcimhhaiaa

namespace Go.Proofs.Ytifhkjcimhhaiaa
open Go Go.RowKit
theorem max0 (n : Int) : 0 ≤ (if 0 > n then 0 else n) := by split <;> omega
set_option maxRecDepth 100000 in
set_option maxHeartbeats 3200000 in
theorem more_any (l : List Dn) (v wv : Value) (c : List Bool) (more : Int) (hl : l.length ≤ 10000000) (hd : ∀ x ∈ l, x.d.ok) (hL : ∀ x ∈ l, x.d.l.length ≤ 100000000) (hcl0 : c.length ≤ 10000000) (hmore : more ≤ 9223372036854775807) (w : World) (hx : DnS w (fpL []) v l) (hcr : RdS w (fpL []) wv 1 c.length (vcs Value.bool c)) (hw : OK w (fpL []) [] w) :
    Fn Try.prog 4 [v, wv, .int .i64 more] [] w (fun _ : Unit => True) (fun _ => .bool true) (fun _ => []) := by
  obtain ⟨al, cl, rfl, hcl, hml⟩ := hx.rows.rd.form
  obtain ⟨ac, cc, rfl, hcc, hmc⟩ := hcr.rd.form
  obtain ⟨FR, LK, SX, HX, H2, PX, F⟩ := fr_some
  have zFR := F.ok FR (by simp)
  have zLK := F.ok LK (by simp)
  have zSX := F.ok SX (by simp)
  have zHX := F.ok HX (by simp)
  have zH2 := F.ok H2 (by simp)
  have zPX := F.ok PX (by simp)
  have oFR : OkO (some FR) := fun s h => by cases h; exact zFR.1
  have oLK : OkO (some LK) := fun s h => by cases h; exact zLK.1
  have oHX : OkO (some HX) := fun s h => by cases h; exact zHX.1
  have hlenX : ∀ o ∈ [some SX, some HX, some H2, some PX], LmT o ∧ (encO o).length ≤ 100 := by
    intro o ho
    simp only [List.mem_cons, List.not_mem_nil, or_false] at ho
    rcases ho with rfl | rfl | rfl | rfl
    · exact ⟨lmk zSX, zSX.2⟩
    · exact ⟨lmk zHX, zHX.2⟩
    · exact ⟨lmk zH2, zH2.2⟩
    · exact ⟨lmk zPX, zPX.2⟩
  have hwX := wLs_x fun o ho => (hlenX o ho).2
  simp only [List.length_cons, List.length_nil] at hwX
  refine enterF Try.func4 rfl Try.ntmps4 rfl hw ?_
  refine WC.seq ?_
  refine WC.region ?_
  refine WL.y (Yl.assign rfl) rfl ?_
  refine WL.nil ?_
  refine WC.seq ?_
  refine WC.seq ?_
  refine WC.region ?_
  refine WL.callC (xs := []) (cap := []) rfl rfl en6 (by repeat (first | exact TakeL.nil | (apply TakeL.cons; · repeat (first | exact Take1.head | apply Take1.tail)))) (fun w hw => known_any w hw.left.here) rfl ?_
  rintro ⟨⟩ -
  refine WL.know (t := 28) (b' := true) rfl rfl ?_
  refine WL.y (Yl.not rfl) rfl ?_
  refine WL.nil ?_
  refine WC.condF rfl (by first | rfl | (simp; done) | (simp; omega)) ?_
  refine WC.skip ?_
  refine WC.seq ?_
  refine WC.seq ?_
  refine WC.region ?_
  refine WL.y (Yl.move rfl) rfl ?_
  refine WL.callC (xs := [.tmp 30]) (cap := []) rfl rfl en7 (by repeat (first | exact TakeL.nil | (apply TakeL.cons; · repeat (first | exact Take1.head | apply Take1.tail)))) (fun w hw => heavy_any l _ hl hd w (hw.srcTS (A := []) hx) hw.left.here) rfl ?_
  rintro hv hvf
  refine WL.nil ?_
  refine WC.cond rfl (fun g31 => ?_) (fun g31 => ?_)
  · refine WC.seq ?_
    refine WC.region ?_
    refine WL.y (Yl.assign rfl) rfl ?_
    refine WL.nil ?_
    refine WC.ret ?_
    repeat (first | (with_reducible refine peelT ?_) | (with_reducible refine peelB ?_) | (with_reducible refine peelTX ?_) | (with_reducible refine peelBX ?_) | (with_reducible refine peelBN ?_) | (with_reducible refine peelBO rfl ?_))
    exact ret1 (.inr rfl) Try.results4 rfl fun w' h => ⟨(), trivial, rfl, h.sub (by repeat (first | exact TakeL.nil | (apply TakeL.cons; · repeat (first | exact Take1.head | apply Take1.tail))))⟩
  · refine WC.skip ?_
    refine WC.seq ?_
    obtain ⟨hl100, hlight⟩ := hvf g31
    refine WC.region ?_
    refine WL.y (Yl.move rfl) rfl ?_
    refine WL.callC (xs := [.tmp 32]) (cap := []) rfl rfl en8 (by repeat (first | exact TakeL.nil | (apply TakeL.cons; · repeat (first | exact Take1.head | apply Take1.tail)))) (fun w hw => lplay_any l _ hl100 hd hlight hL w (hw.srcTS (A := []) hx) hw.left.here) rfl ?_
    rintro ym -
    have hT0 := made_lm (dts_ok hd) hlight
    have htl := playT_len (dts l)
    rw [dts_len] at htl
    have hgd := play_gd (dts l)
    obtain ⟨T, hTe⟩ : ∃ T, playT (dts l) = T := ⟨_, rfl⟩
    rw [hTe] at hT0 htl hgd ⊢
    have hO : AllO T := fun o ho => (hT0 o ho).1
    dsimp only [List.cons_append, List.nil_append]
    refine WL.y (Yl.assign rfl) rfl ?_
    refine WL.nil ?_
    refine WC.seq ?_
    refine WC.region ?_
    refine WL.y (Yl.assign rfl) rfl ?_
    refine WL.nil ?_
    refine WC.seq ?_
    refine WC.seq ?_
    refine WC.region ?_
    refine WL.y (Yl.move rfl) rfl ?_
    refine WL.y (Yl.len un44 rfl) rfl ?_
    refine WL.y (Yl.move rfl) rfl ?_
    refine WL.nil ?_
    refine WC.block ?_
    refine WC.view (fun w h => (h.addNil 34 1)) ?_
    refine WC.loop (α := Nat × List (Option Tm) × (Option Addr × Nat)) (fun s => [(0, .slice al l.length cl), (2, .int .i64 more), (7, .slice ym.1 T.length ym.2), (8, .slice s.2.2.1 s.2.1.length s.2.2.2), (34, .slice ac c.length cc), (35, .int .i64 (c.length : Int)), (36, .int .i64 (s.1 : Int))]) (fun s => [ownR (.slice ym.1 T.length ym.2) 34 1 T.length (vcs tmV T), ownR (.slice s.2.2.1 s.2.1.length s.2.2.2) 34 1 s.2.1.length (vcs tmV s.2.1)]) (fun s => s.1 ≤ c.length ∧ GJ T s.1 s.2.1) (fun s => c.length - s.1) (0, [], (none, 0)) ⟨Nat.zero_le _, GJ.start T⟩ ⟨(by repeat (first | exact Sub.nil | refine Sub.cons rfl ?_)), _, (by repeat (first | exact TakeL.nil | (apply TakeL.cons; · repeat (first | exact Take1.head | apply Take1.tail))))⟩ ?_
    rintro ⟨i, g, z⟩ ⟨hi, hG⟩
    dsimp only at hi hG ⊢
    have hgl := hG.le
    refine WC.seq ?_
    refine WC.region ?_
    refine WL.y (Yl.lss rfl rfl) rfl ?_
    refine WL.nil ?_
    refine WC.seq ?_
    refine WC.condD rfl (fun g37 => ?_) (fun g37 => ?_)
    · refine WC.skip ?_
      refine WC.seq ?_
      refine WC.block ?_
      refine WC.seq ?_
      have hil : i < c.length := by have := g37; omega
      obtain ⟨b, hb⟩ : ∃ o, c[i]? = some o := ⟨_, List.getElem?_eq_getElem hil⟩
      refine WC.region ?_
      refine WL.y (Yl.move rfl) rfl ?_
      refine WL.y (Yl.index un44 sz4 rfl rfl (Reads.s hcr) rfl (by omega)) rfl ?_
      refine WL.y (Yl.loadV vtB boAll rfl (Reads.s hcr) rfl hb) rfl ?_
      refine WL.y (Yl.assign rfl) rfl ?_
      refine WL.y (Yl.assign rfl) rfl ?_
      refine WL.nil ?_
      refine WC.seq ?_
      refine WC.region ?_
      refine WL.y (Yl.move rfl) rfl ?_
      refine WL.y (Yl.move rfl) rfl ?_
      refine WL.both (t := 42) rfl (fun g42 => ?_) (fun g42 => ?_)
      · refine WL.on rfl rfl ?_
        refine WL.y (Yl.move rfl) rfl ?_
        refine WL.on rfl rfl ?_
        refine WL.y (Yl.move rfl) rfl ?_
        refine WL.on rfl rfl ?_
        refine WL.y (Yl.len un25 rfl) rfl ?_
        refine WL.on rfl rfl ?_
        refine WL.y (Yl.lss rfl rfl) rfl ?_
        refine WL.y (Yl.pickT rfl rfl) rfl ?_
        refine WL.nil ?_
        refine WC.condD rfl (fun g47 => ?_) (fun g47 => ?_)
        · have him : i < T.length := by have := g47; omega
          obtain ⟨o, ho⟩ : ∃ o, T[i]? = some o := ⟨_, List.getElem?_eq_getElem him⟩
          refine WC.region ?_
          refine WL.y (Yl.move rfl) rfl ?_
          refine WL.y (Yl.move rfl) rfl ?_
          refine WL.y (Yl.move rfl) rfl ?_
          refine WL.y (Yl.index un25 sz34 rfl rfl (Reads.of (r := ownR (.slice ym.1 T.length ym.2) 34 1 T.length (vcs tmV T)) RdOf.own (by repeat (first | exact Take1.head | apply Take1.tail))) rfl (by omega)) rfl ?_
          refine WL.y (Yl.loadV vtM hO rfl (Reads.of (r := ownR (.slice ym.1 T.length ym.2) 34 1 T.length (vcs tmV T)) RdOf.own (by repeat (first | exact Take1.head | apply Take1.tail))) rfl ho) rfl ?_
          refine WL.to (To.buildSlice (vs := [tmV o]) un25 zs34 rfl rfl (by simp [Value.cells, tmV, tmC]) (by decide) (by decide)) rfl ?_
          intro b53
          rw [show flat [tmV o] = vcs tmV [o] from rfl]
          refine WL.to (To.append sl25 rfl rfl (by repeat (first | exact Take1.head | apply Take1.tail)) (Reads.of (RdOf.blk (size := 1) (n := 1) (cs := vcs tmV [o]) (cs' := vcs tmV [o]) (Nat.le_refl _) (by unfold maxLen; omega) (by simp [vcs, tmV, tmC, flat, Value.cells]) rfl) (by repeat (first | exact Take1.head | apply Take1.tail))) (vtM.ones _) (show g.length + 1 = (g ++ [o]).length by simp) (show vcs tmV g ++ vcs tmV [o] = vcs tmV (g ++ [o]) by rw [vcs_app]) (by simp; unfold maxLen; omega) (by simp; omega)) rfl ?_
          rintro ⟨⟨ao54, c54⟩, hc54⟩
          dsimp only at hc54 ⊢
          refine WL.y (Yl.assign rfl) rfl ?_
          refine WL.nil ?_
          refine WC.region ?_
          refine WL.y (Yl.add rfl rfl (IntWalk.i64_in _ (by omega))) rfl ?_
          refine WL.y (Yl.move rfl) rfl ?_
          refine WL.nil ?_
          exact ⟨rfl, (i + 1, g ++ [o], (ao54, c54)), ⟨by dsimp only; omega, hG.put ho⟩, by dsimp only; omega, (by repeat (first | exact Sub.nil | refine Sub.cons rfl ?_)), _, (by repeat (first | exact TakeL.nil | (apply TakeL.cons; · repeat (first | exact Take1.head | apply Take1.tail))))⟩
        · refine WC.skip ?_
          refine WC.region ?_
          refine WL.y (Yl.add rfl rfl (IntWalk.i64_in _ (by omega))) rfl ?_
          refine WL.y (Yl.move rfl) rfl ?_
          refine WL.nil ?_
          exact ⟨rfl, (i + 1, g, z), ⟨by dsimp only; omega, hG.skip⟩, by dsimp only; omega, (by repeat (first | exact Sub.nil | refine Sub.cons rfl ?_)), _, (by repeat (first | exact TakeL.nil | (apply TakeL.cons; · repeat (first | exact Take1.head | apply Take1.tail))))⟩
      · refine WL.off rfl rfl rfl rfl ?_
        refine WL.off rfl rfl rfl rfl ?_
        refine WL.off rfl rfl rfl rfl ?_
        refine WL.off rfl rfl rfl rfl ?_
        refine WL.y (Yl.pickF rfl rfl) rfl ?_
        refine WL.nil ?_
        refine WC.condF rfl (by first | rfl | (simp; done) | (simp; omega)) ?_
        refine WC.skip ?_
        refine WC.region ?_
        refine WL.y (Yl.add rfl rfl (IntWalk.i64_in _ (by omega))) rfl ?_
        refine WL.y (Yl.move rfl) rfl ?_
        refine WL.nil ?_
        exact ⟨rfl, (i + 1, g, z), ⟨by dsimp only; omega, hG.skip⟩, by dsimp only; omega, (by repeat (first | exact Sub.nil | refine Sub.cons rfl ?_)), _, (by repeat (first | exact TakeL.nil | (apply TakeL.cons; · repeat (first | exact Take1.head | apply Take1.tail))))⟩
    · refine WC.exit ?_
      refine WC.seq ?_
      have hgL : ∀ o ∈ g, Lm o := fun o ho => hT0 o (hG.mem o ho)
      have hwl := wLs_lm hgL
      refine WC.region ?_
      refine WL.y (Yl.move rfl) rfl ?_
      refine WL.callC (xs := [.tmp 56]) (cap := []) rfl rfl en13 (by repeat (first | exact TakeL.nil | (apply TakeL.cons; · repeat (first | exact Take1.head | apply Take1.tail)))) (fun w hw => close_any g (fun o ho => (hgL o ho).t) (by omega) _ w (hw.src (A := []) (r := ownR (.slice z.1 g.length z.2) 34 1 g.length (vcs tmV g)) RdOf.own (by repeat (first | exact Take1.head | apply Take1.tail))) hw.left.here) rfl ?_
      rintro ⟨k11, n11, mk⟩ ⟨hk1, hk2⟩
      dsimp only [List.cons_append, List.nil_append] at hk1 hk2 ⊢
      have hmk : MpG mk := mpg_of hk2
      refine WL.y (Yl.assign rfl) rfl ?_
      refine WL.nil ?_
      refine WC.seq ?_
      refine WC.region ?_
      refine WL.callC (xs := [_]) (cap := []) rfl rfl en14 (by repeat (first | exact TakeL.nil | (apply TakeL.cons; · repeat (first | exact Take1.head | apply Take1.tail)))) (fun w hw => atom_any 9223372036854775808 (by decide) w hw.left.here) rfl ?_
      rintro ⟨⟩ -
      refine WL.callC (xs := [_]) (cap := []) rfl rfl en14 (by repeat (first | exact TakeL.nil | (apply TakeL.cons; · repeat (first | exact Take1.head | apply Take1.tail)))) (fun w hw => atom_any 9223372036854775809 (by decide) w hw.left.here) rfl ?_
      rintro ⟨⟩ -
      rw [F.f1, F.f2]
      refine WL.to (To.alloc (cs := [.string (strOfNums [])]) zr34 rfl) rfl ?_
      intro b12
      refine WL.to (To.alloc (cs := [.string (strOfNums [])]) zr34 rfl) rfl ?_
      intro b13
      refine WL.sto (Sto.agg sz34 rfl rfl (by repeat (first | exact Take1.head | apply Take1.tail)) (tm_ones _) rfl (by rfl) (show _ = tmC (some FR) from rfl)) (fun _ h => nomatch h) ?_
      refine WL.sto (Sto.agg sz34 rfl rfl (by repeat (first | exact Take1.head | apply Take1.tail)) (tm_ones _) rfl (by rfl) (show _ = tmC (some LK) from rfl)) (fun _ h => nomatch h) ?_
      refine WL.nil ?_
      refine WC.seq ?_
      refine WC.seq ?_
      refine WC.region ?_
      refine WL.y (Yl.move rfl) rfl ?_
      refine WL.y (Yl.len un22 rfl) rfl ?_
      refine WL.y (Yl.move rfl) rfl ?_
      refine WL.nil ?_
      refine WC.block ?_
      refine WC.loop (α := Nat) (fun j => [(0, .slice al l.length cl), (2, .int .i64 more), (7, .slice ym.1 T.length ym.2), (8, .slice z.1 g.length z.2), (11, .pointer (some ⟨k11, 0, none⟩)), (12, .pointer (some ⟨b12, 0, none⟩)), (13, .pointer (some ⟨b13, 0, none⟩)), (60, .slice al l.length cl), (61, .int .i64 (l.length : Int)), (62, .int .i64 (j : Int))]) (fun _ => [blkR b12 34 (tmC (some FR)), blkR b13 34 (tmC (some LK)), blkR k11 78 [.map (some n11)], mapR tmV unV n11 mk, ownR (.slice ym.1 T.length ym.2) 34 1 T.length (vcs tmV T), ownR (.slice z.1 g.length z.2) 34 1 g.length (vcs tmV g)]) (fun j => j ≤ l.length ∧ ∀ x ∈ l.take j, x.d.n < 9223372036854775808) (fun j => l.length - j) 0 ⟨Nat.zero_le _, by simp⟩ ⟨(by repeat (first | exact Sub.nil | refine Sub.cons rfl ?_)), _, (by repeat (first | exact TakeL.nil | (apply TakeL.cons; · repeat (first | exact Take1.head | apply Take1.tail))))⟩ ?_
      rintro j ⟨hj, hjn⟩
      refine WC.seq ?_
      refine WC.region ?_
      refine WL.y (Yl.lss rfl rfl) rfl ?_
      refine WL.nil ?_
      refine WC.seq ?_
      refine WC.condD rfl (fun g63 => ?_) (fun g63 => ?_)
      · refine WC.skip ?_
        refine WC.seq ?_
        refine WC.block ?_
        refine WC.seq ?_
        have hjl : j < l.length := by have := g63; omega
        obtain ⟨x, hx0⟩ : ∃ y, l[j]? = some y := ⟨_, List.getElem?_eq_getElem hjl⟩
        refine WC.region ?_
        refine WL.y (Yl.index un22 sz49 rfl rfl (Reads.s hx.rows) rfl (by omega)) rfl ?_
        refine WL.y (Yl.loadV vtDn dnAll rfl (Reads.s hx.rows) rfl hx0) rfl ?_
        refine WL.to (To.alloc (cs := [.int .u8 0, .int .u64 0, .int .i64 0, .int .i64 0, .slice none 0 0]) zr49 rfl) rfl ?_
        intro b15
        refine WL.sto (Sto.agg sz49 rfl rfl (by repeat (first | exact Take1.head | apply Take1.tail)) x.ones rfl (by rfl) (show _ = x.cells from rfl)) (fun _ h => nomatch h) ?_
        refine WL.nil ?_
        refine WC.seq ?_
        refine WC.region ?_
        refine WL.y (Yl.field fo49_1 rfl) rfl ?_
        refine WL.y (Yl.load on36 rfl (by repeat (first | exact Take1.head | apply Take1.tail)) (by rfl)) rfl ?_
        refine WL.y (Yl.geq rfl rfl) rfl ?_
        refine WL.nil ?_
        refine WC.condD rfl (fun g68 => ?_) (fun g68 => ?_)
        · refine WC.seq ?_
          refine WC.region ?_
          refine WL.y (Yl.assign rfl) rfl ?_
          refine WL.nil ?_
          refine WC.ret ?_
          repeat (first | (with_reducible refine peelT ?_) | (with_reducible refine peelB ?_) | (with_reducible refine peelTX ?_) | (with_reducible refine peelBX ?_) | (with_reducible refine peelBN ?_) | (with_reducible refine peelBO rfl ?_))
          exact ret1 (.inr rfl) Try.results4 rfl fun w' h => ⟨(), trivial, rfl, h.sub (by repeat (first | exact TakeL.nil | (apply TakeL.cons; · repeat (first | exact Take1.head | apply Take1.tail))))⟩
        · refine WC.skip ?_
          refine WC.region ?_
          refine WL.y (Yl.add rfl rfl (IntWalk.i64_in _ (by omega))) rfl ?_
          refine WL.y (Yl.move rfl) rfl ?_
          refine WL.nil ?_
          refine ⟨rfl, j + 1, ⟨by omega, fun y hy => ?_⟩, by omega, (by repeat (first | exact Sub.nil | refine Sub.cons rfl ?_)), _, (by repeat (first | exact TakeL.nil | (apply TakeL.cons; · repeat (first | exact Take1.head | apply Take1.tail))))⟩
          rw [← take_snoc _ _ _ hx0] at hy
          rcases List.mem_append.1 hy with hy | hy
          · exact hjn y hy
          · rw [List.mem_singleton.1 hy]
            have := g68
            omega
      · refine WC.exit ?_
        have hjl : j = l.length := by have := g63; omega
        rw [hjl, List.take_length] at hjn
        have hgT := hgd (fun d hd2 => by obtain ⟨x, hx, rfl⟩ := List.mem_map.1 hd2; exact hjn x hx)
        have hgg : ∀ t, some t ∈ g → gdT t := fun t ht => hgT t (hG.mem _ ht)
        have hgx : ∀ o ∈ g ++ [some SX, some HX, some H2, some PX], LmT o := fun o ho => (List.mem_append.1 ho).elim (fun h => (hgL o h).t) (fun h => (hlenX o h).1)
        have hwx : wLs (g ++ [some SX, some HX, some H2, some PX]) ≤ 50000000 := by rw [wLs_app]; omega
        have hgxl : (g ++ [some SX, some HX, some H2, some PX]).length = g.length + 4 := by simp
        refine WC.midE (α := (Nat × Nat × MpT) × (Option Addr × Nat)) (fun q => [(16, .pointer (some ⟨q.1.1, 0, none⟩))]) (fun q => [blkR q.1.1 78 [.map (some q.1.2.1)], mapR tmV unV q.1.2.1 q.1.2.2, twinR (.slice q.2.1 (g ++ [some SX, some HX, some H2, some PX]).length q.2.2) 34 1 (g ++ [some SX, some HX, some H2, some PX]).length (vcs tmV (g ++ [some SX, some HX, some H2, some PX])) (.slice z.1 g.length z.2) g.length (vcs tmV g), blkR b12 34 (tmC (some FR)), blkR b13 34 (tmC (some LK)), blkR k11 78 [.map (some n11)], mapR tmV unV n11 mk, ownR (.slice ym.1 T.length ym.2) 34 1 T.length (vcs tmV T)]) (fun q => (∀ t, inM q.1.2.2 t ↔ ClP (GvT (g ++ [some SX, some HX, some H2, some PX])) t) ∧ MpG q.1.2.2) ?_ ?_
        · refine WC.drawAny (Hs := [blkR b12 34 (tmC (some FR)), blkR b13 34 (tmC (some LK))]) mixed (by kernel_rfl) ⟨_, (by repeat (first | exact TakeL.nil | (apply TakeL.cons; · repeat (first | exact Take1.head | apply Take1.tail))))⟩ ?_
          refine WD.take 0 rfl (by kernel_rfl) (by kernel_rfl) (by kernel_rfl) rfl rfl (Yl.move rfl) rfl ?_
          refine WD.take 1 rfl (by kernel_rfl) (by kernel_rfl) (by kernel_rfl) rfl rfl (Yl.loadN ag34 rfl (by repeat (first | exact Take1.head | apply Take1.tail)) (by rfl) (show _ = tmC (some LK) from rfl)) rfl ?_
          refine WD.take 2 rfl (by kernel_rfl) (by kernel_rfl) (by kernel_rfl) rfl rfl (Yl.loadN ag34 rfl (by repeat (first | exact Take1.head | apply Take1.tail)) (by rfl) (show _ = tmC (some FR) from rfl)) rfl ?_
          refine WD.take 4 rfl (by kernel_rfl) (by kernel_rfl) (by kernel_rfl) rfl rfl (Yl.loadN ag34 rfl (by repeat (first | exact Take1.head | apply Take1.tail)) (by rfl) (show _ = tmC (some FR) from rfl)) rfl ?_
          refine WD.take 7 rfl (by kernel_rfl) (by kernel_rfl) (by kernel_rfl) rfl rfl (Yl.loadN ag34 rfl (by repeat (first | exact Take1.head | apply Take1.tail)) (by rfl) (show _ = tmC (some LK) from rfl)) rfl ?_
          refine WD.take 8 rfl (by kernel_rfl) (by kernel_rfl) (by kernel_rfl) rfl rfl (Yl.loadN ag34 rfl (by repeat (first | exact Take1.head | apply Take1.tail)) (by rfl) (show _ = tmC (some FR) from rfl)) rfl ?_
          refine WD.take 11 rfl (by kernel_rfl) (by kernel_rfl) (by kernel_rfl) rfl rfl (Yl.loadN ag34 rfl (by repeat (first | exact Take1.head | apply Take1.tail)) (by rfl) (show _ = tmC (some LK) from rfl)) rfl ?_
          refine WD.three 3 5 9 (by kernel_rfl) ?_ ?_ ?_
          · refine WO.callC (xs := [.tmp 71, .tmp 72]) (cap := []) rfl .no rfl rfl en15 (by repeat (first | exact TakeL.nil | (apply TakeL.cons; · repeat (first | exact Take1.head | apply Take1.tail)))) (fun w hw => sealed_any (some LK) (some FR) oLK oFR (show LK.enc.length + FR.enc.length ≤ _ by have := zLK.2; have := zFR.2; omega) w hw.left.here) rfl (fun _ => ⟨_, (by repeat (first | exact TakeL.nil | (apply TakeL.cons; · repeat (first | exact Take1.head | apply Take1.tail))))⟩) ?_
            rintro ⟨⟩ -
            rw [F.e1]
            refine WD.two 5 9 (by kernel_rfl) ?_ ?_
            · refine WO.to rfl rfl .no (To.buildSlice (vs := [tmV (some FR)]) un25 zs34 rfl rfl (by simp [Value.cells, tmV, tmC]) (by decide) (by decide)) rfl (fun _ => ⟨_, (by repeat (first | exact TakeL.nil | (apply TakeL.cons; · repeat (first | exact Take1.head | apply Take1.tail))))⟩) ?_
              intro b75
              rw [show flat [tmV (some FR)] = vcs tmV [some FR] from rfl]
              refine WD.two 6 9 (by kernel_rfl) ?_ ?_
              · refine WO.callC (xs := [_, .tmp 75]) (cap := []) rfl .no rfl rfl en16 (by repeat (first | exact TakeL.nil | (apply TakeL.cons; · repeat (first | exact Take1.head | apply Take1.tail)))) (fun w hw => hash_any 1 (by decide) _ [some FR] (by intro o ho; rw [List.mem_singleton.1 ho]; exact oFR) (fun _ => by have := zFR.2; simp [flO, lenO]; omega) w (hw.src (A := []) (RdOf.blk (size := 1) (n := 1) (cs := vcs tmV [some FR]) (cs' := vcs tmV [some FR]) (Nat.le_refl _) (by unfold maxLen; omega) (by simp [vcs, tmV, tmC, flat, Value.cells]) rfl) (by repeat (first | exact Take1.head | apply Take1.tail))) hw.left.here) rfl (fun _ => ⟨_, (by repeat (first | exact TakeL.nil | (apply TakeL.cons; · repeat (first | exact Take1.head | apply Take1.tail))))⟩) ?_
                rintro ⟨⟩ -
                rw [F.e2]
                refine WD.one 9 (by kernel_rfl) ?_
                refine WO.to rfl rfl .no (To.buildSlice (vs := [tmV (some LK), tmV (some FR)]) un25 zs34 rfl rfl (by simp [Value.cells, tmV, tmC]) (by decide) (by decide)) rfl (fun _ => ⟨_, (by repeat (first | exact TakeL.nil | (apply TakeL.cons; · repeat (first | exact Take1.head | apply Take1.tail))))⟩) ?_
                intro b79
                rw [show flat [tmV (some LK), tmV (some FR)] = vcs tmV [some LK, some FR] from rfl]
                refine WD.one 10 (by kernel_rfl) ?_
                refine WO.callC (xs := [_, .tmp 79]) (cap := []) rfl .no rfl rfl en16 (by repeat (first | exact TakeL.nil | (apply TakeL.cons; · repeat (first | exact Take1.head | apply Take1.tail)))) (fun w hw => hash_any 2 (by decide) _ [some LK, some FR] (by intro o ho; simp only [List.mem_cons, List.not_mem_nil, or_false] at ho; rcases ho with rfl | rfl <;> assumption) (fun _ => by have := zFR.2; have := zLK.2; simp [flO, lenO]; omega) w (hw.src (A := []) (RdOf.blk (size := 1) (n := 2) (cs := vcs tmV [some LK, some FR]) (cs' := vcs tmV [some LK, some FR]) (Nat.le_refl _) (by unfold maxLen; omega) (by simp [vcs, tmV, tmC, flat, Value.cells]) rfl) (by repeat (first | exact Take1.head | apply Take1.tail))) hw.left.here) rfl (fun _ => ⟨_, (by repeat (first | exact TakeL.nil | (apply TakeL.cons; · repeat (first | exact Take1.head | apply Take1.tail))))⟩) ?_
                rintro ⟨⟩ -
                rw [F.e3]
                refine WD.one 12 (by kernel_rfl) ?_
                refine WO.callC (xs := [.tmp 81]) (cap := []) rfl .no rfl rfl en17 (by repeat (first | exact TakeL.nil | (apply TakeL.cons; · repeat (first | exact Take1.head | apply Take1.tail)))) (fun w hw => public_any (some LK) oLK (show LK.enc.length ≤ _ by have := zLK.2; omega) w hw.left.here) rfl (fun _ => ⟨_, (by repeat (first | exact TakeL.nil | (apply TakeL.cons; · repeat (first | exact Take1.head | apply Take1.tail))))⟩) ?_
                rintro ⟨⟩ -
                rw [F.e4]
                refine WD.one 13 (by kernel_rfl) ?_
                refine WO.to rfl rfl .no (To.buildSlice (vs := [tmV (some SX), tmV (some HX), tmV (some H2), tmV (some PX)]) un25 zs34 rfl rfl (by simp [Value.cells, tmV, tmC]) (by decide) (by decide)) rfl (fun _ => ⟨_, (by repeat (first | exact TakeL.nil | (apply TakeL.cons; · repeat (first | exact Take1.head | apply Take1.tail))))⟩) ?_
                intro b83
                rw [show flat [tmV (some SX), tmV (some HX), tmV (some H2), tmV (some PX)] = vcs tmV [some SX, some HX, some H2, some PX] from rfl]
                refine WD.one 14 (by kernel_rfl) ?_
                refine WO.to rfl rfl .no (To.appendT sl25 rfl rfl (by repeat (first | exact Take1.head | apply Take1.tail)) (Reads.of (RdOf.blk (size := 1) (n := 4) (cs := vcs tmV [some SX, some HX, some H2, some PX]) (cs' := vcs tmV [some SX, some HX, some H2, some PX]) (Nat.le_refl _) (by unfold maxLen; omega) (by simp [vcs, tmV, tmC, flat, Value.cells]) rfl) (by repeat (first | exact Take1.head | apply Take1.tail))) (vtM.ones _) (show g.length + 4 = (g ++ [some SX, some HX, some H2, some PX]).length by simp) (show vcs tmV g ++ vcs tmV [some SX, some HX, some H2, some PX] = vcs tmV (g ++ [some SX, some HX, some H2, some PX]) by rw [vcs_app]) (by rw [hgxl]; unfold maxLen; omega) (by rw [hgxl]; omega)) rfl (fun _ => ⟨_, (by repeat (first | exact TakeL.nil | (apply TakeL.cons; · repeat (first | exact Take1.head | apply Take1.tail))))⟩) ?_
                rintro ⟨⟨ao84, c84⟩, hc84⟩
                dsimp only at hc84 ⊢
                refine WD.one 15 (by kernel_rfl) ?_
                refine WO.callC (xs := [.tmp 84]) (cap := []) rfl .no rfl rfl en13 (by repeat (first | exact TakeL.nil | (apply TakeL.cons; · repeat (first | exact Take1.head | apply Take1.tail)))) (fun w hw => close_any (g ++ [some SX, some HX, some H2, some PX]) hgx hwx _ w (hw.src (A := []) (r := twinR (.slice ao84 (g ++ [some SX, some HX, some H2, some PX]).length c84) 34 1 (g ++ [some SX, some HX, some H2, some PX]).length (vcs tmV (g ++ [some SX, some HX, some H2, some PX])) (.slice z.1 g.length z.2) g.length (vcs tmV g)) RdOf.twin (by repeat (first | exact Take1.head | apply Take1.tail))) hw.left.here) rfl (fun _ => ⟨_, (by repeat (first | exact TakeL.nil | (apply TakeL.cons; · repeat (first | exact Take1.head | apply Take1.tail))))⟩) ?_
                rintro ⟨k16, n16, mk2⟩ ⟨hk3, hk4⟩
                dsimp only [List.cons_append, List.nil_append] at hk3 hk4 ⊢
                refine WD.take 16 rfl (by kernel_rfl) (by kernel_rfl) (by kernel_rfl) rfl rfl (Yl.assign rfl) rfl ?_
                refine WD.done (by kernel_rfl) ?_
                exact ⟨rfl, ((k16, n16, mk2), (ao84, c84)), ⟨hk3, mpg_of hk4⟩, (by repeat (first | exact Sub.nil | refine Sub.cons rfl ?_)), (by repeat (first | exact Sub.nil | refine Sub.cons rfl ?_)), _, (by repeat (first | exact TakeL.nil | (apply TakeL.cons; · repeat (first | exact Take1.head | apply Take1.tail))))⟩
              · refine WO.to rfl rfl .no (To.buildSlice (vs := [tmV (some LK), tmV (some FR)]) un25 zs34 rfl rfl (by simp [Value.cells, tmV, tmC]) (by decide) (by decide)) rfl (fun _ => ⟨_, (by repeat (first | exact TakeL.nil | (apply TakeL.cons; · repeat (first | exact Take1.head | apply Take1.tail))))⟩) ?_
                intro b79
                rw [show flat [tmV (some LK), tmV (some FR)] = vcs tmV [some LK, some FR] from rfl]
                refine WD.one 6 (by kernel_rfl) ?_
                refine WO.callC (xs := [_, .tmp 75]) (cap := []) rfl .no rfl rfl en16 (by repeat (first | exact TakeL.nil | (apply TakeL.cons; · repeat (first | exact Take1.head | apply Take1.tail)))) (fun w hw => hash_any 1 (by decide) _ [some FR] (by intro o ho; rw [List.mem_singleton.1 ho]; exact oFR) (fun _ => by have := zFR.2; simp [flO, lenO]; omega) w (hw.src (A := []) (RdOf.blk (size := 1) (n := 1) (cs := vcs tmV [some FR]) (cs' := vcs tmV [some FR]) (Nat.le_refl _) (by unfold maxLen; omega) (by simp [vcs, tmV, tmC, flat, Value.cells]) rfl) (by repeat (first | exact Take1.head | apply Take1.tail))) hw.left.here) rfl (fun _ => ⟨_, (by repeat (first | exact TakeL.nil | (apply TakeL.cons; · repeat (first | exact Take1.head | apply Take1.tail))))⟩) ?_
                rintro ⟨⟩ -
                rw [F.e2]
                refine WD.one 10 (by kernel_rfl) ?_
                refine WO.callC (xs := [_, .tmp 79]) (cap := []) rfl .no rfl rfl en16 (by repeat (first | exact TakeL.nil | (apply TakeL.cons; · repeat (first | exact Take1.head | apply Take1.tail)))) (fun w hw => hash_any 2 (by decide) _ [some LK, some FR] (by intro o ho; simp only [List.mem_cons, List.not_mem_nil, or_false] at ho; rcases ho with rfl | rfl <;> assumption) (fun _ => by have := zFR.2; have := zLK.2; simp [flO, lenO]; omega) w (hw.src (A := []) (RdOf.blk (size := 1) (n := 2) (cs := vcs tmV [some LK, some FR]) (cs' := vcs tmV [some LK, some FR]) (Nat.le_refl _) (by unfold maxLen; omega) (by simp [vcs, tmV, tmC, flat, Value.cells]) rfl) (by repeat (first | exact Take1.head | apply Take1.tail))) hw.left.here) rfl (fun _ => ⟨_, (by repeat (first | exact TakeL.nil | (apply TakeL.cons; · repeat (first | exact Take1.head | apply Take1.tail))))⟩) ?_
                rintro ⟨⟩ -
                rw [F.e3]
                refine WD.one 12 (by kernel_rfl) ?_
                refine WO.callC (xs := [.tmp 81]) (cap := []) rfl .no rfl rfl en17 (by repeat (first | exact TakeL.nil | (apply TakeL.cons; · repeat (first | exact Take1.head | apply Take1.tail)))) (fun w hw => public_any (some LK) oLK (show LK.enc.length ≤ _ by have := zLK.2; omega) w hw.left.here) rfl (fun _ => ⟨_, (by repeat (first | exact TakeL.nil | (apply TakeL.cons; · repeat (first | exact Take1.head | apply Take1.tail))))⟩) ?_
                rintro ⟨⟩ -
                rw [F.e4]
                refine WD.one 13 (by kernel_rfl) ?_
                refine WO.to rfl rfl .no (To.buildSlice (vs := [tmV (some SX), tmV (some HX), tmV (some H2), tmV (some PX)]) un25 zs34 rfl rfl (by simp [Value.cells, tmV, tmC]) (by decide) (by decide)) rfl (fun _ => ⟨_, (by repeat (first | exact TakeL.nil | (apply TakeL.cons; · repeat (first | exact Take1.head | apply Take1.tail))))⟩) ?_
                intro b83
                rw [show flat [tmV (some SX), tmV (some HX), tmV (some H2), tmV (some PX)] = vcs tmV [some SX, some HX, some H2, some PX] from rfl]
                refine WD.one 14 (by kernel_rfl) ?_
                refine WO.to rfl rfl .no (To.appendT sl25 rfl rfl (by repeat (first | exact Take1.head | apply Take1.tail)) (Reads.of (RdOf.blk (size := 1) (n := 4) (cs := vcs tmV [some SX, some HX, some H2, some PX]) (cs' := vcs tmV [some SX, some HX, some H2, some PX]) (Nat.le_refl _) (by unfold maxLen; omega) (by simp [vcs, tmV, tmC, flat, Value.cells]) rfl) (by repeat (first | exact Take1.head | apply Take1.tail))) (vtM.ones _) (show g.length + 4 = (g ++ [some SX, some HX, some H2, some PX]).length by simp) (show vcs tmV g ++ vcs tmV [some SX, some HX, some H2, some PX] = vcs tmV (g ++ [some SX, some HX, some H2, some PX]) by rw [vcs_app]) (by rw [hgxl]; unfold maxLen; omega) (by rw [hgxl]; omega)) rfl (fun _ => ⟨_, (by repeat (first | exact TakeL.nil | (apply TakeL.cons; · repeat (first | exact Take1.head | apply Take1.tail))))⟩) ?_
                rintro ⟨⟨ao84, c84⟩, hc84⟩
                dsimp only at hc84 ⊢
                refine WD.one 15 (by kernel_rfl) ?_
                refine WO.callC (xs := [.tmp 84]) (cap := []) rfl .no rfl rfl en13 (by repeat (first | exact TakeL.nil | (apply TakeL.cons; · repeat (first | exact Take1.head | apply Take1.tail)))) (fun w hw => close_any (g ++ [some SX, some HX, some H2, some PX]) hgx hwx _ w (hw.src (A := []) (r := twinR (.slice ao84 (g ++ [some SX, some HX, some H2, some PX]).length c84) 34 1 (g ++ [some SX, some HX, some H2, some PX]).length (vcs tmV (g ++ [some SX, some HX, some H2, some PX])) (.slice z.1 g.length z.2) g.length (vcs tmV g)) RdOf.twin (by repeat (first | exact Take1.head | apply Take1.tail))) hw.left.here) rfl (fun _ => ⟨_, (by repeat (first | exact TakeL.nil | (apply TakeL.cons; · repeat (first | exact Take1.head | apply Take1.tail))))⟩) ?_
                rintro ⟨k16, n16, mk2⟩ ⟨hk3, hk4⟩
                dsimp only [List.cons_append, List.nil_append] at hk3 hk4 ⊢
                refine WD.take 16 rfl (by kernel_rfl) (by kernel_rfl) (by kernel_rfl) rfl rfl (Yl.assign rfl) rfl ?_
                refine WD.done (by kernel_rfl) ?_
                exact ⟨rfl, ((k16, n16, mk2), (ao84, c84)), ⟨hk3, mpg_of hk4⟩, (by repeat (first | exact Sub.nil | refine Sub.cons rfl ?_)), (by repeat (first | exact Sub.nil | refine Sub.cons rfl ?_)), _, (by repeat (first | exact TakeL.nil | (apply TakeL.cons; · repeat (first | exact Take1.head | apply Take1.tail))))⟩
            · refine WO.to rfl rfl .no (To.buildSlice (vs := [tmV (some LK), tmV (some FR)]) un25 zs34 rfl rfl (by simp [Value.cells, tmV, tmC]) (by decide) (by decide)) rfl (fun _ => ⟨_, (by repeat (first | exact TakeL.nil | (apply TakeL.cons; · repeat (first | exact Take1.head | apply Take1.tail))))⟩) ?_
              intro b79
              rw [show flat [tmV (some LK), tmV (some FR)] = vcs tmV [some LK, some FR] from rfl]
              refine WD.one 5 (by kernel_rfl) ?_
              refine WO.to rfl rfl .no (To.buildSlice (vs := [tmV (some FR)]) un25 zs34 rfl rfl (by simp [Value.cells, tmV, tmC]) (by decide) (by decide)) rfl (fun _ => ⟨_, (by repeat (first | exact TakeL.nil | (apply TakeL.cons; · repeat (first | exact Take1.head | apply Take1.tail))))⟩) ?_
              intro b75
              rw [show flat [tmV (some FR)] = vcs tmV [some FR] from rfl]
              refine WD.one 6 (by kernel_rfl) ?_
              refine WO.callC (xs := [_, .tmp 75]) (cap := []) rfl .no rfl rfl en16 (by repeat (first | exact TakeL.nil | (apply TakeL.cons; · repeat (first | exact Take1.head | apply Take1.tail)))) (fun w hw => hash_any 1 (by decide) _ [some FR] (by intro o ho; rw [List.mem_singleton.1 ho]; exact oFR) (fun _ => by have := zFR.2; simp [flO, lenO]; omega) w (hw.src (A := []) (RdOf.blk (size := 1) (n := 1) (cs := vcs tmV [some FR]) (cs' := vcs tmV [some FR]) (Nat.le_refl _) (by unfold maxLen; omega) (by simp [vcs, tmV, tmC, flat, Value.cells]) rfl) (by repeat (first | exact Take1.head | apply Take1.tail))) hw.left.here) rfl (fun _ => ⟨_, (by repeat (first | exact TakeL.nil | (apply TakeL.cons; · repeat (first | exact Take1.head | apply Take1.tail))))⟩) ?_
              rintro ⟨⟩ -
              rw [F.e2]
              refine WD.one 10 (by kernel_rfl) ?_
              refine WO.callC (xs := [_, .tmp 79]) (cap := []) rfl .no rfl rfl en16 (by repeat (first | exact TakeL.nil | (apply TakeL.cons; · repeat (first | exact Take1.head | apply Take1.tail)))) (fun w hw => hash_any 2 (by decide) _ [some LK, some FR] (by intro o ho; simp only [List.mem_cons, List.not_mem_nil, or_false] at ho; rcases ho with rfl | rfl <;> assumption) (fun _ => by have := zFR.2; have := zLK.2; simp [flO, lenO]; omega) w (hw.src (A := []) (RdOf.blk (size := 1) (n := 2) (cs := vcs tmV [some LK, some FR]) (cs' := vcs tmV [some LK, some FR]) (Nat.le_refl _) (by unfold maxLen; omega) (by simp [vcs, tmV, tmC, flat, Value.cells]) rfl) (by repeat (first | exact Take1.head | apply Take1.tail))) hw.left.here) rfl (fun _ => ⟨_, (by repeat (first | exact TakeL.nil | (apply TakeL.cons; · repeat (first | exact Take1.head | apply Take1.tail))))⟩) ?_
              rintro ⟨⟩ -
              rw [F.e3]
              refine WD.one 12 (by kernel_rfl) ?_
              refine WO.callC (xs := [.tmp 81]) (cap := []) rfl .no rfl rfl en17 (by repeat (first | exact TakeL.nil | (apply TakeL.cons; · repeat (first | exact Take1.head | apply Take1.tail)))) (fun w hw => public_any (some LK) oLK (show LK.enc.length ≤ _ by have := zLK.2; omega) w hw.left.here) rfl (fun _ => ⟨_, (by repeat (first | exact TakeL.nil | (apply TakeL.cons; · repeat (first | exact Take1.head | apply Take1.tail))))⟩) ?_
              rintro ⟨⟩ -
              rw [F.e4]
              refine WD.one 13 (by kernel_rfl) ?_
              refine WO.to rfl rfl .no (To.buildSlice (vs := [tmV (some SX), tmV (some HX), tmV (some H2), tmV (some PX)]) un25 zs34 rfl rfl (by simp [Value.cells, tmV, tmC]) (by decide) (by decide)) rfl (fun _ => ⟨_, (by repeat (first | exact TakeL.nil | (apply TakeL.cons; · repeat (first | exact Take1.head | apply Take1.tail))))⟩) ?_
              intro b83
              rw [show flat [tmV (some SX), tmV (some HX), tmV (some H2), tmV (some PX)] = vcs tmV [some SX, some HX, some H2, some PX] from rfl]
              refine WD.one 14 (by kernel_rfl) ?_
              refine WO.to rfl rfl .no (To.appendT sl25 rfl rfl (by repeat (first | exact Take1.head | apply Take1.tail)) (Reads.of (RdOf.blk (size := 1) (n := 4) (cs := vcs tmV [some SX, some HX, some H2, some PX]) (cs' := vcs tmV [some SX, some HX, some H2, some PX]) (Nat.le_refl _) (by unfold maxLen; omega) (by simp [vcs, tmV, tmC, flat, Value.cells]) rfl) (by repeat (first | exact Take1.head | apply Take1.tail))) (vtM.ones _) (show g.length + 4 = (g ++ [some SX, some HX, some H2, some PX]).length by simp) (show vcs tmV g ++ vcs tmV [some SX, some HX, some H2, some PX] = vcs tmV (g ++ [some SX, some HX, some H2, some PX]) by rw [vcs_app]) (by rw [hgxl]; unfold maxLen; omega) (by rw [hgxl]; omega)) rfl (fun _ => ⟨_, (by repeat (first | exact TakeL.nil | (apply TakeL.cons; · repeat (first | exact Take1.head | apply Take1.tail))))⟩) ?_
              rintro ⟨⟨ao84, c84⟩, hc84⟩
              dsimp only at hc84 ⊢
              refine WD.one 15 (by kernel_rfl) ?_
              refine WO.callC (xs := [.tmp 84]) (cap := []) rfl .no rfl rfl en13 (by repeat (first | exact TakeL.nil | (apply TakeL.cons; · repeat (first | exact Take1.head | apply Take1.tail)))) (fun w hw => close_any (g ++ [some SX, some HX, some H2, some PX]) hgx hwx _ w (hw.src (A := []) (r := twinR (.slice ao84 (g ++ [some SX, some HX, some H2, some PX]).length c84) 34 1 (g ++ [some SX, some HX, some H2, some PX]).length (vcs tmV (g ++ [some SX, some HX, some H2, some PX])) (.slice z.1 g.length z.2) g.length (vcs tmV g)) RdOf.twin (by repeat (first | exact Take1.head | apply Take1.tail))) hw.left.here) rfl (fun _ => ⟨_, (by repeat (first | exact TakeL.nil | (apply TakeL.cons; · repeat (first | exact Take1.head | apply Take1.tail))))⟩) ?_
              rintro ⟨k16, n16, mk2⟩ ⟨hk3, hk4⟩
              dsimp only [List.cons_append, List.nil_append] at hk3 hk4 ⊢
              refine WD.take 16 rfl (by kernel_rfl) (by kernel_rfl) (by kernel_rfl) rfl rfl (Yl.assign rfl) rfl ?_
              refine WD.done (by kernel_rfl) ?_
              exact ⟨rfl, ((k16, n16, mk2), (ao84, c84)), ⟨hk3, mpg_of hk4⟩, (by repeat (first | exact Sub.nil | refine Sub.cons rfl ?_)), (by repeat (first | exact Sub.nil | refine Sub.cons rfl ?_)), _, (by repeat (first | exact TakeL.nil | (apply TakeL.cons; · repeat (first | exact Take1.head | apply Take1.tail))))⟩
          · refine WO.to rfl rfl .no (To.buildSlice (vs := [tmV (some FR)]) un25 zs34 rfl rfl (by simp [Value.cells, tmV, tmC]) (by decide) (by decide)) rfl (fun _ => ⟨_, (by repeat (first | exact TakeL.nil | (apply TakeL.cons; · repeat (first | exact Take1.head | apply Take1.tail))))⟩) ?_
            intro b75
            rw [show flat [tmV (some FR)] = vcs tmV [some FR] from rfl]
            refine WD.two 3 9 (by kernel_rfl) ?_ ?_
            · refine WO.callC (xs := [.tmp 71, .tmp 72]) (cap := []) rfl .no rfl rfl en15 (by repeat (first | exact TakeL.nil | (apply TakeL.cons; · repeat (first | exact Take1.head | apply Take1.tail)))) (fun w hw => sealed_any (some LK) (some FR) oLK oFR (show LK.enc.length + FR.enc.length ≤ _ by have := zLK.2; have := zFR.2; omega) w hw.left.here) rfl (fun _ => ⟨_, (by repeat (first | exact TakeL.nil | (apply TakeL.cons; · repeat (first | exact Take1.head | apply Take1.tail))))⟩) ?_
              rintro ⟨⟩ -
              rw [F.e1]
              refine WD.two 6 9 (by kernel_rfl) ?_ ?_
              · refine WO.callC (xs := [_, .tmp 75]) (cap := []) rfl .no rfl rfl en16 (by repeat (first | exact TakeL.nil | (apply TakeL.cons; · repeat (first | exact Take1.head | apply Take1.tail)))) (fun w hw => hash_any 1 (by decide) _ [some FR] (by intro o ho; rw [List.mem_singleton.1 ho]; exact oFR) (fun _ => by have := zFR.2; simp [flO, lenO]; omega) w (hw.src (A := []) (RdOf.blk (size := 1) (n := 1) (cs := vcs tmV [some FR]) (cs' := vcs tmV [some FR]) (Nat.le_refl _) (by unfold maxLen; omega) (by simp [vcs, tmV, tmC, flat, Value.cells]) rfl) (by repeat (first | exact Take1.head | apply Take1.tail))) hw.left.here) rfl (fun _ => ⟨_, (by repeat (first | exact TakeL.nil | (apply TakeL.cons; · repeat (first | exact Take1.head | apply Take1.tail))))⟩) ?_
                rintro ⟨⟩ -
                rw [F.e2]
                refine WD.one 9 (by kernel_rfl) ?_
                refine WO.to rfl rfl .no (To.buildSlice (vs := [tmV (some LK), tmV (some FR)]) un25 zs34 rfl rfl (by simp [Value.cells, tmV, tmC]) (by decide) (by decide)) rfl (fun _ => ⟨_, (by repeat (first | exact TakeL.nil | (apply TakeL.cons; · repeat (first | exact Take1.head | apply Take1.tail))))⟩) ?_
                intro b79
                rw [show flat [tmV (some LK), tmV (some FR)] = vcs tmV [some LK, some FR] from rfl]
                refine WD.one 10 (by kernel_rfl) ?_
                refine WO.callC (xs := [_, .tmp 79]) (cap := []) rfl .no rfl rfl en16 (by repeat (first | exact TakeL.nil | (apply TakeL.cons; · repeat (first | exact Take1.head | apply Take1.tail)))) (fun w hw => hash_any 2 (by decide) _ [some LK, some FR] (by intro o ho; simp only [List.mem_cons, List.not_mem_nil, or_false] at ho; rcases ho with rfl | rfl <;> assumption) (fun _ => by have := zFR.2; have := zLK.2; simp [flO, lenO]; omega) w (hw.src (A := []) (RdOf.blk (size := 1) (n := 2) (cs := vcs tmV [some LK, some FR]) (cs' := vcs tmV [some LK, some FR]) (Nat.le_refl _) (by unfold maxLen; omega) (by simp [vcs, tmV, tmC, flat, Value.cells]) rfl) (by repeat (first | exact Take1.head | apply Take1.tail))) hw.left.here) rfl (fun _ => ⟨_, (by repeat (first | exact TakeL.nil | (apply TakeL.cons; · repeat (first | exact Take1.head | apply Take1.tail))))⟩) ?_
                rintro ⟨⟩ -
                rw [F.e3]
                refine WD.one 12 (by kernel_rfl) ?_
                refine WO.callC (xs := [.tmp 81]) (cap := []) rfl .no rfl rfl en17 (by repeat (first | exact TakeL.nil | (apply TakeL.cons; · repeat (first | exact Take1.head | apply Take1.tail)))) (fun w hw => public_any (some LK) oLK (show LK.enc.length ≤ _ by have := zLK.2; omega) w hw.left.here) rfl (fun _ => ⟨_, (by repeat (first | exact TakeL.nil | (apply TakeL.cons; · repeat (first | exact Take1.head | apply Take1.tail))))⟩) ?_
                rintro ⟨⟩ -
                rw [F.e4]
                refine WD.one 13 (by kernel_rfl) ?_
                refine WO.to rfl rfl .no (To.buildSlice (vs := [tmV (some SX), tmV (some HX), tmV (some H2), tmV (some PX)]) un25 zs34 rfl rfl (by simp [Value.cells, tmV, tmC]) (by decide) (by decide)) rfl (fun _ => ⟨_, (by repeat (first | exact TakeL.nil | (apply TakeL.cons; · repeat (first | exact Take1.head | apply Take1.tail))))⟩) ?_
                intro b83
                rw [show flat [tmV (some SX), tmV (some HX), tmV (some H2), tmV (some PX)] = vcs tmV [some SX, some HX, some H2, some PX] from rfl]
                refine WD.one 14 (by kernel_rfl) ?_
                refine WO.to rfl rfl .no (To.appendT sl25 rfl rfl (by repeat (first | exact Take1.head | apply Take1.tail)) (Reads.of (RdOf.blk (size := 1) (n := 4) (cs := vcs tmV [some SX, some HX, some H2, some PX]) (cs' := vcs tmV [some SX, some HX, some H2, some PX]) (Nat.le_refl _) (by unfold maxLen; omega) (by simp [vcs, tmV, tmC, flat, Value.cells]) rfl) (by repeat (first | exact Take1.head | apply Take1.tail))) (vtM.ones _) (show g.length + 4 = (g ++ [some SX, some HX, some H2, some PX]).length by simp) (show vcs tmV g ++ vcs tmV [some SX, some HX, some H2, some PX] = vcs tmV (g ++ [some SX, some HX, some H2, some PX]) by rw [vcs_app]) (by rw [hgxl]; unfold maxLen; omega) (by rw [hgxl]; omega)) rfl (fun _ => ⟨_, (by repeat (first | exact TakeL.nil | (apply TakeL.cons; · repeat (first | exact Take1.head | apply Take1.tail))))⟩) ?_
                rintro ⟨⟨ao84, c84⟩, hc84⟩
                dsimp only at hc84 ⊢
                refine WD.one 15 (by kernel_rfl) ?_
                refine WO.callC (xs := [.tmp 84]) (cap := []) rfl .no rfl rfl en13 (by repeat (first | exact TakeL.nil | (apply TakeL.cons; · repeat (first | exact Take1.head | apply Take1.tail)))) (fun w hw => close_any (g ++ [some SX, some HX, some H2, some PX]) hgx hwx _ w (hw.src (A := []) (r := twinR (.slice ao84 (g ++ [some SX, some HX, some H2, some PX]).length c84) 34 1 (g ++ [some SX, some HX, some H2, some PX]).length (vcs tmV (g ++ [some SX, some HX, some H2, some PX])) (.slice z.1 g.length z.2) g.length (vcs tmV g)) RdOf.twin (by repeat (first | exact Take1.head | apply Take1.tail))) hw.left.here) rfl (fun _ => ⟨_, (by repeat (first | exact TakeL.nil | (apply TakeL.cons; · repeat (first | exact Take1.head | apply Take1.tail))))⟩) ?_
                rintro ⟨k16, n16, mk2⟩ ⟨hk3, hk4⟩
                dsimp only [List.cons_append, List.nil_append] at hk3 hk4 ⊢
                refine WD.take 16 rfl (by kernel_rfl) (by kernel_rfl) (by kernel_rfl) rfl rfl (Yl.assign rfl) rfl ?_
                refine WD.done (by kernel_rfl) ?_
                exact ⟨rfl, ((k16, n16, mk2), (ao84, c84)), ⟨hk3, mpg_of hk4⟩, (by repeat (first | exact Sub.nil | refine Sub.cons rfl ?_)), (by repeat (first | exact Sub.nil | refine Sub.cons rfl ?_)), _, (by repeat (first | exact TakeL.nil | (apply TakeL.cons; · repeat (first | exact Take1.head | apply Take1.tail))))⟩
              · refine WO.to rfl rfl .no (To.buildSlice (vs := [tmV (some LK), tmV (some FR)]) un25 zs34 rfl rfl (by simp [Value.cells, tmV, tmC]) (by decide) (by decide)) rfl (fun _ => ⟨_, (by repeat (first | exact TakeL.nil | (apply TakeL.cons; · repeat (first | exact Take1.head | apply Take1.tail))))⟩) ?_
                intro b79
                rw [show flat [tmV (some LK), tmV (some FR)] = vcs tmV [some LK, some FR] from rfl]
                refine WD.one 6 (by kernel_rfl) ?_
                refine WO.callC (xs := [_, .tmp 75]) (cap := []) rfl .no rfl rfl en16 (by repeat (first | exact TakeL.nil | (apply TakeL.cons; · repeat (first | exact Take1.head | apply Take1.tail)))) (fun w hw => hash_any 1 (by decide) _ [some FR] (by intro o ho; rw [List.mem_singleton.1 ho]; exact oFR) (fun _ => by have := zFR.2; simp [flO, lenO]; omega) w (hw.src (A := []) (RdOf.blk (size := 1) (n := 1) (cs := vcs tmV [some FR]) (cs' := vcs tmV [some FR]) (Nat.le_refl _) (by unfold maxLen; omega) (by simp [vcs, tmV, tmC, flat, Value.cells]) rfl) (by repeat (first | exact Take1.head | apply Take1.tail))) hw.left.here) rfl (fun _ => ⟨_, (by repeat (first | exact TakeL.nil | (apply TakeL.cons; · repeat (first | exact Take1.head | apply Take1.tail))))⟩) ?_
                rintro ⟨⟩ -
                rw [F.e2]
                refine WD.one 10 (by kernel_rfl) ?_
                refine WO.callC (xs := [_, .tmp 79]) (cap := []) rfl .no rfl rfl en16 (by repeat (first | exact TakeL.nil | (apply TakeL.cons; · repeat (first | exact Take1.head | apply Take1.tail)))) (fun w hw => hash_any 2 (by decide) _ [some LK, some FR] (by intro o ho; simp only [List.mem_cons, List.not_mem_nil, or_false] at ho; rcases ho with rfl | rfl <;> assumption) (fun _ => by have := zFR.2; have := zLK.2; simp [flO, lenO]; omega) w (hw.src (A := []) (RdOf.blk (size := 1) (n := 2) (cs := vcs tmV [some LK, some FR]) (cs' := vcs tmV [some LK, some FR]) (Nat.le_refl _) (by unfold maxLen; omega) (by simp [vcs, tmV, tmC, flat, Value.cells]) rfl) (by repeat (first | exact Take1.head | apply Take1.tail))) hw.left.here) rfl (fun _ => ⟨_, (by repeat (first | exact TakeL.nil | (apply TakeL.cons; · repeat (first | exact Take1.head | apply Take1.tail))))⟩) ?_
                rintro ⟨⟩ -
                rw [F.e3]
                refine WD.one 12 (by kernel_rfl) ?_
                refine WO.callC (xs := [.tmp 81]) (cap := []) rfl .no rfl rfl en17 (by repeat (first | exact TakeL.nil | (apply TakeL.cons; · repeat (first | exact Take1.head | apply Take1.tail)))) (fun w hw => public_any (some LK) oLK (show LK.enc.length ≤ _ by have := zLK.2; omega) w hw.left.here) rfl (fun _ => ⟨_, (by repeat (first | exact TakeL.nil | (apply TakeL.cons; · repeat (first | exact Take1.head | apply Take1.tail))))⟩) ?_
                rintro ⟨⟩ -
                rw [F.e4]
                refine WD.one 13 (by kernel_rfl) ?_
                refine WO.to rfl rfl .no (To.buildSlice (vs := [tmV (some SX), tmV (some HX), tmV (some H2), tmV (some PX)]) un25 zs34 rfl rfl (by simp [Value.cells, tmV, tmC]) (by decide) (by decide)) rfl (fun _ => ⟨_, (by repeat (first | exact TakeL.nil | (apply TakeL.cons; · repeat (first | exact Take1.head | apply Take1.tail))))⟩) ?_
                intro b83
                rw [show flat [tmV (some SX), tmV (some HX), tmV (some H2), tmV (some PX)] = vcs tmV [some SX, some HX, some H2, some PX] from rfl]
                refine WD.one 14 (by kernel_rfl) ?_
                refine WO.to rfl rfl .no (To.appendT sl25 rfl rfl (by repeat (first | exact Take1.head | apply Take1.tail)) (Reads.of (RdOf.blk (size := 1) (n := 4) (cs := vcs tmV [some SX, some HX, some H2, some PX]) (cs' := vcs tmV [some SX, some HX, some H2, some PX]) (Nat.le_refl _) (by unfold maxLen; omega) (by simp [vcs, tmV, tmC, flat, Value.cells]) rfl) (by repeat (first | exact Take1.head | apply Take1.tail))) (vtM.ones _) (show g.length + 4 = (g ++ [some SX, some HX, some H2, some PX]).length by simp) (show vcs tmV g ++ vcs tmV [some SX, some HX, some H2, some PX] = vcs tmV (g ++ [some SX, some HX, some H2, some PX]) by rw [vcs_app]) (by rw [hgxl]; unfold maxLen; omega) (by rw [hgxl]; omega)) rfl (fun _ => ⟨_, (by repeat (first | exact TakeL.nil | (apply TakeL.cons; · repeat (first | exact Take1.head | apply Take1.tail))))⟩) ?_
                rintro ⟨⟨ao84, c84⟩, hc84⟩
                dsimp only at hc84 ⊢
                refine WD.one 15 (by kernel_rfl) ?_
                refine WO.callC (xs := [.tmp 84]) (cap := []) rfl .no rfl rfl en13 (by repeat (first | exact TakeL.nil | (apply TakeL.cons; · repeat (first | exact Take1.head | apply Take1.tail)))) (fun w hw => close_any (g ++ [some SX, some HX, some H2, some PX]) hgx hwx _ w (hw.src (A := []) (r := twinR (.slice ao84 (g ++ [some SX, some HX, some H2, some PX]).length c84) 34 1 (g ++ [some SX, some HX, some H2, some PX]).length (vcs tmV (g ++ [some SX, some HX, some H2, some PX])) (.slice z.1 g.length z.2) g.length (vcs tmV g)) RdOf.twin (by repeat (first | exact Take1.head | apply Take1.tail))) hw.left.here) rfl (fun _ => ⟨_, (by repeat (first | exact TakeL.nil | (apply TakeL.cons; · repeat (first | exact Take1.head | apply Take1.tail))))⟩) ?_
                rintro ⟨k16, n16, mk2⟩ ⟨hk3, hk4⟩
                dsimp only [List.cons_append, List.nil_append] at hk3 hk4 ⊢
                refine WD.take 16 rfl (by kernel_rfl) (by kernel_rfl) (by kernel_rfl) rfl rfl (Yl.assign rfl) rfl ?_
                refine WD.done (by kernel_rfl) ?_
                exact ⟨rfl, ((k16, n16, mk2), (ao84, c84)), ⟨hk3, mpg_of hk4⟩, (by repeat (first | exact Sub.nil | refine Sub.cons rfl ?_)), (by repeat (first | exact Sub.nil | refine Sub.cons rfl ?_)), _, (by repeat (first | exact TakeL.nil | (apply TakeL.cons; · repeat (first | exact Take1.head | apply Take1.tail))))⟩
            · refine WO.to rfl rfl .no (To.buildSlice (vs := [tmV (some LK), tmV (some FR)]) un25 zs34 rfl rfl (by simp [Value.cells, tmV, tmC]) (by decide) (by decide)) rfl (fun _ => ⟨_, (by repeat (first | exact TakeL.nil | (apply TakeL.cons; · repeat (first | exact Take1.head | apply Take1.tail))))⟩) ?_
              intro b79
              rw [show flat [tmV (some LK), tmV (some FR)] = vcs tmV [some LK, some FR] from rfl]
              refine WD.one 3 (by kernel_rfl) ?_
              refine WO.callC (xs := [.tmp 71, .tmp 72]) (cap := []) rfl .no rfl rfl en15 (by repeat (first | exact TakeL.nil | (apply TakeL.cons; · repeat (first | exact Take1.head | apply Take1.tail)))) (fun w hw => sealed_any (some LK) (some FR) oLK oFR (show LK.enc.length + FR.enc.length ≤ _ by have := zLK.2; have := zFR.2; omega) w hw.left.here) rfl (fun _ => ⟨_, (by repeat (first | exact TakeL.nil | (apply TakeL.cons; · repeat (first | exact Take1.head | apply Take1.tail))))⟩) ?_
              rintro ⟨⟩ -
              rw [F.e1]
              refine WD.one 6 (by kernel_rfl) ?_
              refine WO.callC (xs := [_, .tmp 75]) (cap := []) rfl .no rfl rfl en16 (by repeat (first | exact TakeL.nil | (apply TakeL.cons; · repeat (first | exact Take1.head | apply Take1.tail)))) (fun w hw => hash_any 1 (by decide) _ [some FR] (by intro o ho; rw [List.mem_singleton.1 ho]; exact oFR) (fun _ => by have := zFR.2; simp [flO, lenO]; omega) w (hw.src (A := []) (RdOf.blk (size := 1) (n := 1) (cs := vcs tmV [some FR]) (cs' := vcs tmV [some FR]) (Nat.le_refl _) (by unfold maxLen; omega) (by simp [vcs, tmV, tmC, flat, Value.cells]) rfl) (by repeat (first | exact Take1.head | apply Take1.tail))) hw.left.here) rfl (fun _ => ⟨_, (by repeat (first | exact TakeL.nil | (apply TakeL.cons; · repeat (first | exact Take1.head | apply Take1.tail))))⟩) ?_
              rintro ⟨⟩ -
              rw [F.e2]
              refine WD.one 10 (by kernel_rfl) ?_
              refine WO.callC (xs := [_, .tmp 79]) (cap := []) rfl .no rfl rfl en16 (by repeat (first | exact TakeL.nil | (apply TakeL.cons; · repeat (first | exact Take1.head | apply Take1.tail)))) (fun w hw => hash_any 2 (by decide) _ [some LK, some FR] (by intro o ho; simp only [List.mem_cons, List.not_mem_nil, or_false] at ho; rcases ho with rfl | rfl <;> assumption) (fun _ => by have := zFR.2; have := zLK.2; simp [flO, lenO]; omega) w (hw.src (A := []) (RdOf.blk (size := 1) (n := 2) (cs := vcs tmV [some LK, some FR]) (cs' := vcs tmV [some LK, some FR]) (Nat.le_refl _) (by unfold maxLen; omega) (by simp [vcs, tmV, tmC, flat, Value.cells]) rfl) (by repeat (first | exact Take1.head | apply Take1.tail))) hw.left.here) rfl (fun _ => ⟨_, (by repeat (first | exact TakeL.nil | (apply TakeL.cons; · repeat (first | exact Take1.head | apply Take1.tail))))⟩) ?_
              rintro ⟨⟩ -
              rw [F.e3]
              refine WD.one 12 (by kernel_rfl) ?_
              refine WO.callC (xs := [.tmp 81]) (cap := []) rfl .no rfl rfl en17 (by repeat (first | exact TakeL.nil | (apply TakeL.cons; · repeat (first | exact Take1.head | apply Take1.tail)))) (fun w hw => public_any (some LK) oLK (show LK.enc.length ≤ _ by have := zLK.2; omega) w hw.left.here) rfl (fun _ => ⟨_, (by repeat (first | exact TakeL.nil | (apply TakeL.cons; · repeat (first | exact Take1.head | apply Take1.tail))))⟩) ?_
              rintro ⟨⟩ -
              rw [F.e4]
              refine WD.one 13 (by kernel_rfl) ?_
              refine WO.to rfl rfl .no (To.buildSlice (vs := [tmV (some SX), tmV (some HX), tmV (some H2), tmV (some PX)]) un25 zs34 rfl rfl (by simp [Value.cells, tmV, tmC]) (by decide) (by decide)) rfl (fun _ => ⟨_, (by repeat (first | exact TakeL.nil | (apply TakeL.cons; · repeat (first | exact Take1.head | apply Take1.tail))))⟩) ?_
              intro b83
              rw [show flat [tmV (some SX), tmV (some HX), tmV (some H2), tmV (some PX)] = vcs tmV [some SX, some HX, some H2, some PX] from rfl]
              refine WD.one 14 (by kernel_rfl) ?_
              refine WO.to rfl rfl .no (To.appendT sl25 rfl rfl (by repeat (first | exact Take1.head | apply Take1.tail)) (Reads.of (RdOf.blk (size := 1) (n := 4) (cs := vcs tmV [some SX, some HX, some H2, some PX]) (cs' := vcs tmV [some SX, some HX, some H2, some PX]) (Nat.le_refl _) (by unfold maxLen; omega) (by simp [vcs, tmV, tmC, flat, Value.cells]) rfl) (by repeat (first | exact Take1.head | apply Take1.tail))) (vtM.ones _) (show g.length + 4 = (g ++ [some SX, some HX, some H2, some PX]).length by simp) (show vcs tmV g ++ vcs tmV [some SX, some HX, some H2, some PX] = vcs tmV (g ++ [some SX, some HX, some H2, some PX]) by rw [vcs_app]) (by rw [hgxl]; unfold maxLen; omega) (by rw [hgxl]; omega)) rfl (fun _ => ⟨_, (by repeat (first | exact TakeL.nil | (apply TakeL.cons; · repeat (first | exact Take1.head | apply Take1.tail))))⟩) ?_
              rintro ⟨⟨ao84, c84⟩, hc84⟩
              dsimp only at hc84 ⊢
              refine WD.one 15 (by kernel_rfl) ?_
              refine WO.callC (xs := [.tmp 84]) (cap := []) rfl .no rfl rfl en13 (by repeat (first | exact TakeL.nil | (apply TakeL.cons; · repeat (first | exact Take1.head | apply Take1.tail)))) (fun w hw => close_any (g ++ [some SX, some HX, some H2, some PX]) hgx hwx _ w (hw.src (A := []) (r := twinR (.slice ao84 (g ++ [some SX, some HX, some H2, some PX]).length c84) 34 1 (g ++ [some SX, some HX, some H2, some PX]).length (vcs tmV (g ++ [some SX, some HX, some H2, some PX])) (.slice z.1 g.length z.2) g.length (vcs tmV g)) RdOf.twin (by repeat (first | exact Take1.head | apply Take1.tail))) hw.left.here) rfl (fun _ => ⟨_, (by repeat (first | exact TakeL.nil | (apply TakeL.cons; · repeat (first | exact Take1.head | apply Take1.tail))))⟩) ?_
              rintro ⟨k16, n16, mk2⟩ ⟨hk3, hk4⟩
              dsimp only [List.cons_append, List.nil_append] at hk3 hk4 ⊢
              refine WD.take 16 rfl (by kernel_rfl) (by kernel_rfl) (by kernel_rfl) rfl rfl (Yl.assign rfl) rfl ?_
              refine WD.done (by kernel_rfl) ?_
              exact ⟨rfl, ((k16, n16, mk2), (ao84, c84)), ⟨hk3, mpg_of hk4⟩, (by repeat (first | exact Sub.nil | refine Sub.cons rfl ?_)), (by repeat (first | exact Sub.nil | refine Sub.cons rfl ?_)), _, (by repeat (first | exact TakeL.nil | (apply TakeL.cons; · repeat (first | exact Take1.head | apply Take1.tail))))⟩
          · refine WO.to rfl rfl .no (To.buildSlice (vs := [tmV (some LK), tmV (some FR)]) un25 zs34 rfl rfl (by simp [Value.cells, tmV, tmC]) (by decide) (by decide)) rfl (fun _ => ⟨_, (by repeat (first | exact TakeL.nil | (apply TakeL.cons; · repeat (first | exact Take1.head | apply Take1.tail))))⟩) ?_
            intro b79
            rw [show flat [tmV (some LK), tmV (some FR)] = vcs tmV [some LK, some FR] from rfl]
            refine WD.two 3 5 (by kernel_rfl) ?_ ?_
            · refine WO.callC (xs := [.tmp 71, .tmp 72]) (cap := []) rfl .no rfl rfl en15 (by repeat (first | exact TakeL.nil | (apply TakeL.cons; · repeat (first | exact Take1.head | apply Take1.tail)))) (fun w hw => sealed_any (some LK) (some FR) oLK oFR (show LK.enc.length + FR.enc.length ≤ _ by have := zLK.2; have := zFR.2; omega) w hw.left.here) rfl (fun _ => ⟨_, (by repeat (first | exact TakeL.nil | (apply TakeL.cons; · repeat (first | exact Take1.head | apply Take1.tail))))⟩) ?_
              rintro ⟨⟩ -
              rw [F.e1]
              refine WD.one 5 (by kernel_rfl) ?_
              refine WO.to rfl rfl .no (To.buildSlice (vs := [tmV (some FR)]) un25 zs34 rfl rfl (by simp [Value.cells, tmV, tmC]) (by decide) (by decide)) rfl (fun _ => ⟨_, (by repeat (first | exact TakeL.nil | (apply TakeL.cons; · repeat (first | exact Take1.head | apply Take1.tail))))⟩) ?_
              intro b75
              rw [show flat [tmV (some FR)] = vcs tmV [some FR] from rfl]
              refine WD.one 6 (by kernel_rfl) ?_
              refine WO.callC (xs := [_, .tmp 75]) (cap := []) rfl .no rfl rfl en16 (by repeat (first | exact TakeL.nil | (apply TakeL.cons; · repeat (first | exact Take1.head | apply Take1.tail)))) (fun w hw => hash_any 1 (by decide) _ [some FR] (by intro o ho; rw [List.mem_singleton.1 ho]; exact oFR) (fun _ => by have := zFR.2; simp [flO, lenO]; omega) w (hw.src (A := []) (RdOf.blk (size := 1) (n := 1) (cs := vcs tmV [some FR]) (cs' := vcs tmV [some FR]) (Nat.le_refl _) (by unfold maxLen; omega) (by simp [vcs, tmV, tmC, flat, Value.cells]) rfl) (by repeat (first | exact Take1.head | apply Take1.tail))) hw.left.here) rfl (fun _ => ⟨_, (by repeat (first | exact TakeL.nil | (apply TakeL.cons; · repeat (first | exact Take1.head | apply Take1.tail))))⟩) ?_
              rintro ⟨⟩ -
              rw [F.e2]
              refine WD.one 10 (by kernel_rfl) ?_
              refine WO.callC (xs := [_, .tmp 79]) (cap := []) rfl .no rfl rfl en16 (by repeat (first | exact TakeL.nil | (apply TakeL.cons; · repeat (first | exact Take1.head | apply Take1.tail)))) (fun w hw => hash_any 2 (by decide) _ [some LK, some FR] (by intro o ho; simp only [List.mem_cons, List.not_mem_nil, or_false] at ho; rcases ho with rfl | rfl <;> assumption) (fun _ => by have := zFR.2; have := zLK.2; simp [flO, lenO]; omega) w (hw.src (A := []) (RdOf.blk (size := 1) (n := 2) (cs := vcs tmV [some LK, some FR]) (cs' := vcs tmV [some LK, some FR]) (Nat.le_refl _) (by unfold maxLen; omega) (by simp [vcs, tmV, tmC, flat, Value.cells]) rfl) (by repeat (first | exact Take1.head | apply Take1.tail))) hw.left.here) rfl (fun _ => ⟨_, (by repeat (first | exact TakeL.nil | (apply TakeL.cons; · repeat (first | exact Take1.head | apply Take1.tail))))⟩) ?_
              rintro ⟨⟩ -
              rw [F.e3]
              refine WD.one 12 (by kernel_rfl) ?_
              refine WO.callC (xs := [.tmp 81]) (cap := []) rfl .no rfl rfl en17 (by repeat (first | exact TakeL.nil | (apply TakeL.cons; · repeat (first | exact Take1.head | apply Take1.tail)))) (fun w hw => public_any (some LK) oLK (show LK.enc.length ≤ _ by have := zLK.2; omega) w hw.left.here) rfl (fun _ => ⟨_, (by repeat (first | exact TakeL.nil | (apply TakeL.cons; · repeat (first | exact Take1.head | apply Take1.tail))))⟩) ?_
              rintro ⟨⟩ -
              rw [F.e4]
              refine WD.one 13 (by kernel_rfl) ?_
              refine WO.to rfl rfl .no (To.buildSlice (vs := [tmV (some SX), tmV (some HX), tmV (some H2), tmV (some PX)]) un25 zs34 rfl rfl (by simp [Value.cells, tmV, tmC]) (by decide) (by decide)) rfl (fun _ => ⟨_, (by repeat (first | exact TakeL.nil | (apply TakeL.cons; · repeat (first | exact Take1.head | apply Take1.tail))))⟩) ?_
              intro b83
              rw [show flat [tmV (some SX), tmV (some HX), tmV (some H2), tmV (some PX)] = vcs tmV [some SX, some HX, some H2, some PX] from rfl]
              refine WD.one 14 (by kernel_rfl) ?_
              refine WO.to rfl rfl .no (To.appendT sl25 rfl rfl (by repeat (first | exact Take1.head | apply Take1.tail)) (Reads.of (RdOf.blk (size := 1) (n := 4) (cs := vcs tmV [some SX, some HX, some H2, some PX]) (cs' := vcs tmV [some SX, some HX, some H2, some PX]) (Nat.le_refl _) (by unfold maxLen; omega) (by simp [vcs, tmV, tmC, flat, Value.cells]) rfl) (by repeat (first | exact Take1.head | apply Take1.tail))) (vtM.ones _) (show g.length + 4 = (g ++ [some SX, some HX, some H2, some PX]).length by simp) (show vcs tmV g ++ vcs tmV [some SX, some HX, some H2, some PX] = vcs tmV (g ++ [some SX, some HX, some H2, some PX]) by rw [vcs_app]) (by rw [hgxl]; unfold maxLen; omega) (by rw [hgxl]; omega)) rfl (fun _ => ⟨_, (by repeat (first | exact TakeL.nil | (apply TakeL.cons; · repeat (first | exact Take1.head | apply Take1.tail))))⟩) ?_
              rintro ⟨⟨ao84, c84⟩, hc84⟩
              dsimp only at hc84 ⊢
              refine WD.one 15 (by kernel_rfl) ?_
              refine WO.callC (xs := [.tmp 84]) (cap := []) rfl .no rfl rfl en13 (by repeat (first | exact TakeL.nil | (apply TakeL.cons; · repeat (first | exact Take1.head | apply Take1.tail)))) (fun w hw => close_any (g ++ [some SX, some HX, some H2, some PX]) hgx hwx _ w (hw.src (A := []) (r := twinR (.slice ao84 (g ++ [some SX, some HX, some H2, some PX]).length c84) 34 1 (g ++ [some SX, some HX, some H2, some PX]).length (vcs tmV (g ++ [some SX, some HX, some H2, some PX])) (.slice z.1 g.length z.2) g.length (vcs tmV g)) RdOf.twin (by repeat (first | exact Take1.head | apply Take1.tail))) hw.left.here) rfl (fun _ => ⟨_, (by repeat (first | exact TakeL.nil | (apply TakeL.cons; · repeat (first | exact Take1.head | apply Take1.tail))))⟩) ?_
              rintro ⟨k16, n16, mk2⟩ ⟨hk3, hk4⟩
              dsimp only [List.cons_append, List.nil_append] at hk3 hk4 ⊢
              refine WD.take 16 rfl (by kernel_rfl) (by kernel_rfl) (by kernel_rfl) rfl rfl (Yl.assign rfl) rfl ?_
              refine WD.done (by kernel_rfl) ?_
              exact ⟨rfl, ((k16, n16, mk2), (ao84, c84)), ⟨hk3, mpg_of hk4⟩, (by repeat (first | exact Sub.nil | refine Sub.cons rfl ?_)), (by repeat (first | exact Sub.nil | refine Sub.cons rfl ?_)), _, (by repeat (first | exact TakeL.nil | (apply TakeL.cons; · repeat (first | exact Take1.head | apply Take1.tail))))⟩
            · refine WO.to rfl rfl .no (To.buildSlice (vs := [tmV (some FR)]) un25 zs34 rfl rfl (by simp [Value.cells, tmV, tmC]) (by decide) (by decide)) rfl (fun _ => ⟨_, (by repeat (first | exact TakeL.nil | (apply TakeL.cons; · repeat (first | exact Take1.head | apply Take1.tail))))⟩) ?_
              intro b75
              rw [show flat [tmV (some FR)] = vcs tmV [some FR] from rfl]
              refine WD.one 3 (by kernel_rfl) ?_
              refine WO.callC (xs := [.tmp 71, .tmp 72]) (cap := []) rfl .no rfl rfl en15 (by repeat (first | exact TakeL.nil | (apply TakeL.cons; · repeat (first | exact Take1.head | apply Take1.tail)))) (fun w hw => sealed_any (some LK) (some FR) oLK oFR (show LK.enc.length + FR.enc.length ≤ _ by have := zLK.2; have := zFR.2; omega) w hw.left.here) rfl (fun _ => ⟨_, (by repeat (first | exact TakeL.nil | (apply TakeL.cons; · repeat (first | exact Take1.head | apply Take1.tail))))⟩) ?_
              rintro ⟨⟩ -
              rw [F.e1]
              refine WD.one 6 (by kernel_rfl) ?_
              refine WO.callC (xs := [_, .tmp 75]) (cap := []) rfl .no rfl rfl en16 (by repeat (first | exact TakeL.nil | (apply TakeL.cons; · repeat (first | exact Take1.head | apply Take1.tail)))) (fun w hw => hash_any 1 (by decide) _ [some FR] (by intro o ho; rw [List.mem_singleton.1 ho]; exact oFR) (fun _ => by have := zFR.2; simp [flO, lenO]; omega) w (hw.src (A := []) (RdOf.blk (size := 1) (n := 1) (cs := vcs tmV [some FR]) (cs' := vcs tmV [some FR]) (Nat.le_refl _) (by unfold maxLen; omega) (by simp [vcs, tmV, tmC, flat, Value.cells]) rfl) (by repeat (first | exact Take1.head | apply Take1.tail))) hw.left.here) rfl (fun _ => ⟨_, (by repeat (first | exact TakeL.nil | (apply TakeL.cons; · repeat (first | exact Take1.head | apply Take1.tail))))⟩) ?_
              rintro ⟨⟩ -
              rw [F.e2]
              refine WD.one 10 (by kernel_rfl) ?_
              refine WO.callC (xs := [_, .tmp 79]) (cap := []) rfl .no rfl rfl en16 (by repeat (first | exact TakeL.nil | (apply TakeL.cons; · repeat (first | exact Take1.head | apply Take1.tail)))) (fun w hw => hash_any 2 (by decide) _ [some LK, some FR] (by intro o ho; simp only [List.mem_cons, List.not_mem_nil, or_false] at ho; rcases ho with rfl | rfl <;> assumption) (fun _ => by have := zFR.2; have := zLK.2; simp [flO, lenO]; omega) w (hw.src (A := []) (RdOf.blk (size := 1) (n := 2) (cs := vcs tmV [some LK, some FR]) (cs' := vcs tmV [some LK, some FR]) (Nat.le_refl _) (by unfold maxLen; omega) (by simp [vcs, tmV, tmC, flat, Value.cells]) rfl) (by repeat (first | exact Take1.head | apply Take1.tail))) hw.left.here) rfl (fun _ => ⟨_, (by repeat (first | exact TakeL.nil | (apply TakeL.cons; · repeat (first | exact Take1.head | apply Take1.tail))))⟩) ?_
              rintro ⟨⟩ -
              rw [F.e3]
              refine WD.one 12 (by kernel_rfl) ?_
              refine WO.callC (xs := [.tmp 81]) (cap := []) rfl .no rfl rfl en17 (by repeat (first | exact TakeL.nil | (apply TakeL.cons; · repeat (first | exact Take1.head | apply Take1.tail)))) (fun w hw => public_any (some LK) oLK (show LK.enc.length ≤ _ by have := zLK.2; omega) w hw.left.here) rfl (fun _ => ⟨_, (by repeat (first | exact TakeL.nil | (apply TakeL.cons; · repeat (first | exact Take1.head | apply Take1.tail))))⟩) ?_
              rintro ⟨⟩ -
              rw [F.e4]
              refine WD.one 13 (by kernel_rfl) ?_
              refine WO.to rfl rfl .no (To.buildSlice (vs := [tmV (some SX), tmV (some HX), tmV (some H2), tmV (some PX)]) un25 zs34 rfl rfl (by simp [Value.cells, tmV, tmC]) (by decide) (by decide)) rfl (fun _ => ⟨_, (by repeat (first | exact TakeL.nil | (apply TakeL.cons; · repeat (first | exact Take1.head | apply Take1.tail))))⟩) ?_
              intro b83
              rw [show flat [tmV (some SX), tmV (some HX), tmV (some H2), tmV (some PX)] = vcs tmV [some SX, some HX, some H2, some PX] from rfl]
              refine WD.one 14 (by kernel_rfl) ?_
              refine WO.to rfl rfl .no (To.appendT sl25 rfl rfl (by repeat (first | exact Take1.head | apply Take1.tail)) (Reads.of (RdOf.blk (size := 1) (n := 4) (cs := vcs tmV [some SX, some HX, some H2, some PX]) (cs' := vcs tmV [some SX, some HX, some H2, some PX]) (Nat.le_refl _) (by unfold maxLen; omega) (by simp [vcs, tmV, tmC, flat, Value.cells]) rfl) (by repeat (first | exact Take1.head | apply Take1.tail))) (vtM.ones _) (show g.length + 4 = (g ++ [some SX, some HX, some H2, some PX]).length by simp) (show vcs tmV g ++ vcs tmV [some SX, some HX, some H2, some PX] = vcs tmV (g ++ [some SX, some HX, some H2, some PX]) by rw [vcs_app]) (by rw [hgxl]; unfold maxLen; omega) (by rw [hgxl]; omega)) rfl (fun _ => ⟨_, (by repeat (first | exact TakeL.nil | (apply TakeL.cons; · repeat (first | exact Take1.head | apply Take1.tail))))⟩) ?_
              rintro ⟨⟨ao84, c84⟩, hc84⟩
              dsimp only at hc84 ⊢
              refine WD.one 15 (by kernel_rfl) ?_
              refine WO.callC (xs := [.tmp 84]) (cap := []) rfl .no rfl rfl en13 (by repeat (first | exact TakeL.nil | (apply TakeL.cons; · repeat (first | exact Take1.head | apply Take1.tail)))) (fun w hw => close_any (g ++ [some SX, some HX, some H2, some PX]) hgx hwx _ w (hw.src (A := []) (r := twinR (.slice ao84 (g ++ [some SX, some HX, some H2, some PX]).length c84) 34 1 (g ++ [some SX, some HX, some H2, some PX]).length (vcs tmV (g ++ [some SX, some HX, some H2, some PX])) (.slice z.1 g.length z.2) g.length (vcs tmV g)) RdOf.twin (by repeat (first | exact Take1.head | apply Take1.tail))) hw.left.here) rfl (fun _ => ⟨_, (by repeat (first | exact TakeL.nil | (apply TakeL.cons; · repeat (first | exact Take1.head | apply Take1.tail))))⟩) ?_
              rintro ⟨k16, n16, mk2⟩ ⟨hk3, hk4⟩
              dsimp only [List.cons_append, List.nil_append] at hk3 hk4 ⊢
              refine WD.take 16 rfl (by kernel_rfl) (by kernel_rfl) (by kernel_rfl) rfl rfl (Yl.assign rfl) rfl ?_
              refine WD.done (by kernel_rfl) ?_
              exact ⟨rfl, ((k16, n16, mk2), (ao84, c84)), ⟨hk3, mpg_of hk4⟩, (by repeat (first | exact Sub.nil | refine Sub.cons rfl ?_)), (by repeat (first | exact Sub.nil | refine Sub.cons rfl ?_)), _, (by repeat (first | exact TakeL.nil | (apply TakeL.cons; · repeat (first | exact Take1.head | apply Take1.tail))))⟩
        · rintro ⟨⟨k16, n16, mk2⟩, zx⟩ ⟨hk3, hmk2⟩
          dsimp only at hk3 hmk2 ⊢
          obtain ⟨cF, cL, cH⟩ := F.no g mk2 hgg hk3
          refine WC.seq ?_
          refine WC.seq ?_
          refine WC.region ?_
          refine WL.y (Yl.move rfl) rfl ?_
          refine WL.y (Yl.loadN ag34 rfl (by repeat (first | exact Take1.head | apply Take1.tail)) (by rfl) (show _ = tmC (some FR) from rfl)) rfl ?_
          refine WL.callC (xs := [.tmp 86, .tmp 87]) (cap := []) rfl rfl en18 (by repeat (first | exact TakeL.nil | (apply TakeL.cons; · repeat (first | exact Take1.head | apply Take1.tail)))) (fun w hw => can_any k16 n16 mk2 hmk2 (some FR) oFR (show FR.enc.length ≤ _ by have := zFR.2; omega) w (hw.get (by repeat (first | exact Take1.head | apply Take1.tail))) (hw.get (by repeat (first | exact Take1.head | apply Take1.tail)))) rfl ?_
          rintro ⟨⟩ -
          refine WL.know (t := 88) (b' := false) rfl cF ?_
          refine WL.y (Yl.move rfl) rfl ?_
          refine WL.on rfl rfl ?_
          refine WL.y (Yl.move rfl) rfl ?_
          refine WL.on rfl rfl ?_
          refine WL.y (Yl.loadN ag34 rfl (by repeat (first | exact Take1.head | apply Take1.tail)) (by rfl) (show _ = tmC (some LK) from rfl)) rfl ?_
          refine WL.on rfl rfl ?_
          refine WL.callC (xs := [.tmp 90, .tmp 91]) (cap := []) rfl rfl en18 (by repeat (first | exact TakeL.nil | (apply TakeL.cons; · repeat (first | exact Take1.head | apply Take1.tail)))) (fun w hw => can_any k16 n16 mk2 hmk2 (some LK) oLK (show LK.enc.length ≤ _ by have := zLK.2; omega) w (hw.get (by repeat (first | exact Take1.head | apply Take1.tail))) (hw.get (by repeat (first | exact Take1.head | apply Take1.tail)))) rfl ?_
          rintro ⟨⟩ -
          refine WL.know (t := 92) (b' := false) rfl cL ?_
          refine WL.y (Yl.pickF rfl rfl) rfl ?_
          refine WL.y (Yl.move rfl) rfl ?_
          refine WL.on rfl rfl ?_
          refine WL.y (Yl.move rfl) rfl ?_
          refine WL.on rfl rfl ?_
          refine WL.y (Yl.loadN ag34 rfl (by repeat (first | exact Take1.head | apply Take1.tail)) (by rfl) (show _ = tmC (some FR) from rfl)) rfl ?_
          refine WL.on rfl rfl ?_
          refine WL.to (To.buildSlice (vs := [tmV (some FR)]) un25 zs34 rfl rfl (by simp [Value.cells, tmV, tmC]) (by decide) (by decide)) rfl ?_
          intro b97
          rw [show flat [tmV (some FR)] = vcs tmV [some FR] from rfl]
          refine WL.on rfl rfl ?_
          refine WL.callC (xs := [_, .tmp 97]) (cap := []) rfl rfl en16 (by repeat (first | exact TakeL.nil | (apply TakeL.cons; · repeat (first | exact Take1.head | apply Take1.tail)))) (fun w hw => hash_any 1 (by decide) _ [some FR] (by intro o ho; rw [List.mem_singleton.1 ho]; exact oFR) (fun _ => by have := zFR.2; simp [flO, lenO]; omega) w (hw.src (A := []) (RdOf.blk (size := 1) (n := 1) (cs := vcs tmV [some FR]) (cs' := vcs tmV [some FR]) (Nat.le_refl _) (by unfold maxLen; omega) (by simp [vcs, tmV, tmC, flat, Value.cells]) rfl) (by repeat (first | exact Take1.head | apply Take1.tail))) hw.left.here) rfl ?_
          rintro ⟨⟩ -
          rw [F.e2]
          refine WL.on rfl rfl ?_
          refine WL.callC (xs := [.tmp 95, .tmp 98]) (cap := []) rfl rfl en18 (by repeat (first | exact TakeL.nil | (apply TakeL.cons; · repeat (first | exact Take1.head | apply Take1.tail)))) (fun w hw => can_any k16 n16 mk2 hmk2 (some HX) oHX (show HX.enc.length ≤ _ by have := zHX.2; omega) w (hw.get (by repeat (first | exact Take1.head | apply Take1.tail))) (hw.get (by repeat (first | exact Take1.head | apply Take1.tail)))) rfl ?_
          rintro ⟨⟩ -
          refine WL.know (t := 99) (b' := true) rfl cH ?_
          refine WL.on rfl rfl ?_
          refine WL.y (Yl.not rfl) rfl ?_
          refine WL.y (Yl.pickF rfl rfl) rfl ?_
          refine WL.nil ?_
          refine WC.condF rfl (by first | rfl | (simp; done) | (simp; omega)) ?_
          refine WC.skip ?_
          refine WC.seq ?_
          refine WC.region ?_
          refine WL.y (Yl.assign rfl) rfl ?_
          refine WL.nil ?_
          refine WC.seq ?_
          refine WC.seq ?_
          refine WC.region ?_
          refine WL.y (Yl.move rfl) rfl ?_
          refine WL.y (Yl.len un25 rfl) rfl ?_
          refine WL.y (Yl.move rfl) rfl ?_
          refine WL.nil ?_
          refine WC.block ?_
          refine WC.view (fun w h => (h.addNil 34 1)) ?_
          refine WC.loop (α := Nat × (Option Addr × Nat)) (fun s => [(2, .int .i64 more), (7, .slice ym.1 T.length ym.2), (8, .slice z.1 g.length z.2), (11, .pointer (some ⟨k11, 0, none⟩)), (16, .pointer (some ⟨k16, 0, none⟩)), (17, .slice s.2.1 (canF mk (T.take s.1)).length s.2.2), (102, .slice ym.1 T.length ym.2), (103, .int .i64 (T.length : Int)), (104, .int .i64 (s.1 : Int))]) (fun s => [blkR k16 78 [.map (some n16)], mapR tmV unV n16 mk2, twinR (.slice zx.1 (g ++ [some SX, some HX, some H2, some PX]).length zx.2) 34 1 (g ++ [some SX, some HX, some H2, some PX]).length (vcs tmV (g ++ [some SX, some HX, some H2, some PX])) (.slice z.1 g.length z.2) g.length (vcs tmV g), blkR k11 78 [.map (some n11)], mapR tmV unV n11 mk, ownR (.slice ym.1 T.length ym.2) 34 1 T.length (vcs tmV T), ownR (.slice s.2.1 (canF mk (T.take s.1)).length s.2.2) 34 1 (canF mk (T.take s.1)).length (vcs tmV (canF mk (T.take s.1)))]) (fun s => s.1 ≤ T.length) (fun s => T.length - s.1) (0, (none, 0)) (Nat.zero_le _) ⟨(by repeat (first | exact Sub.nil | refine Sub.cons rfl ?_)), _, (by repeat (first | exact TakeL.nil | (apply TakeL.cons; · repeat (first | exact Take1.head | apply Take1.tail))))⟩ ?_
          rintro ⟨i3, y3⟩ hi3
          dsimp only at hi3 ⊢
          refine WC.seq ?_
          refine WC.region ?_
          refine WL.y (Yl.lss rfl rfl) rfl ?_
          refine WL.nil ?_
          refine WC.seq ?_
          refine WC.condD rfl (fun g105 => ?_) (fun g105 => ?_)
          · refine WC.skip ?_
            refine WC.seq ?_
            refine WC.block ?_
            refine WC.seq ?_
            have hil3 : i3 < T.length := by have := g105; omega
            obtain ⟨o, ho⟩ : ∃ o, T[i3]? = some o := ⟨_, List.getElem?_eq_getElem hil3⟩
            have hoL := hT0 o (List.mem_of_getElem? ho)
            have hoL2 := hoL.2
            have hcn := canF_next (m := mk) ho
            have hcl3 := canF_len mk (T.take i3)
            rw [List.length_take] at hcl3
            refine WC.region ?_
            refine WL.y (Yl.index un25 sz34 rfl rfl (Reads.of (r := ownR (.slice ym.1 T.length ym.2) 34 1 T.length (vcs tmV T)) RdOf.own (by repeat (first | exact Take1.head | apply Take1.tail))) rfl (by omega)) rfl ?_
            refine WL.y (Yl.loadV vtM hO rfl (Reads.of (r := ownR (.slice ym.1 T.length ym.2) 34 1 T.length (vcs tmV T)) RdOf.own (by repeat (first | exact Take1.head | apply Take1.tail))) rfl ho) rfl ?_
            refine WL.to (To.alloc (cs := [.string (strOfNums [])]) zr34 rfl) rfl ?_
            intro b19
            refine WL.sto (Sto.agg sz34 rfl rfl (by repeat (first | exact Take1.head | apply Take1.tail)) (tm_ones _) rfl (by rfl) (show _ = tmC o from rfl)) (fun _ h => nomatch h) ?_
            refine WL.nil ?_
            refine WC.seq ?_
            refine WC.seq ?_
            refine WC.region ?_
            refine WL.y (Yl.move rfl) rfl ?_
            refine WL.y (Yl.loadN ag34 rfl (by repeat (first | exact Take1.head | apply Take1.tail)) (by rfl) (show _ = tmC o from rfl)) rfl ?_
            refine WL.callC (xs := [.tmp 108, .tmp 109]) (cap := []) rfl rfl en18 (by repeat (first | exact TakeL.nil | (apply TakeL.cons; · repeat (first | exact Take1.head | apply Take1.tail)))) (fun w hw => can_any k11 n11 mk hmk o hoL.1 (by omega) w (hw.get (by repeat (first | exact Take1.head | apply Take1.tail))) (hw.get (by repeat (first | exact Take1.head | apply Take1.tail)))) rfl ?_
            rintro ⟨⟩ -
            refine WL.nil ?_
            refine WC.cond rfl (fun g110 => ?_) (fun g110 => ?_)
            · refine WC.region ?_
              refine WL.y (Yl.move rfl) rfl ?_
              refine WL.y (Yl.loadN ag34 rfl (by repeat (first | exact Take1.head | apply Take1.tail)) (by rfl) (show _ = tmC o from rfl)) rfl ?_
              refine WL.to (To.buildSlice (vs := [tmV o]) un25 zs34 rfl rfl (by simp [Value.cells, tmV, tmC]) (by decide) (by decide)) rfl ?_
              intro b113
              rw [show flat [tmV o] = vcs tmV [o] from rfl]
              refine WL.to (To.append sl25 rfl rfl (by repeat (first | exact Take1.head | apply Take1.tail)) (Reads.of (RdOf.blk (size := 1) (n := 1) (cs := vcs tmV [o]) (cs' := vcs tmV [o]) (Nat.le_refl _) (by unfold maxLen; omega) (by simp [vcs, tmV, tmC, flat, Value.cells]) rfl) (by repeat (first | exact Take1.head | apply Take1.tail))) (vtM.ones _) (show (canF mk (T.take i3)).length + 1 = (canF mk (T.take (i3 + 1))).length by rw [hcn, g110]; simp) (show vcs tmV (canF mk (T.take i3)) ++ vcs tmV [o] = vcs tmV (canF mk (T.take (i3 + 1))) by rw [hcn, g110, vcs_app]; rfl) (by rw [hcn, g110]; simp; unfold maxLen; omega) (by rw [hcn, g110]; simp; omega)) rfl ?_
              rintro ⟨⟨ao114, c114⟩, hc114⟩
              dsimp only at hc114 ⊢
              refine WL.y (Yl.assign rfl) rfl ?_
              refine WL.nil ?_
              refine WC.seq ?_
              refine WC.region ?_
              refine WL.y (Yl.move rfl) rfl ?_
              refine WL.y (Yl.loadN ag34 rfl (by repeat (first | exact Take1.head | apply Take1.tail)) (by rfl) (show _ = tmC o from rfl)) rfl ?_
              refine WL.callC (xs := [.tmp 115, .tmp 116]) (cap := []) rfl rfl en18 (by repeat (first | exact TakeL.nil | (apply TakeL.cons; · repeat (first | exact Take1.head | apply Take1.tail)))) (fun w hw => can_any k11 n11 mk hmk o hoL.1 (by omega) w (hw.get (by repeat (first | exact Take1.head | apply Take1.tail))) (hw.get (by repeat (first | exact Take1.head | apply Take1.tail)))) rfl ?_
              rintro ⟨⟩ -
              refine WL.know (t := 117) (b' := true) rfl g110 ?_
              refine WL.y (Yl.move rfl) rfl ?_
              refine WL.on rfl rfl ?_
              refine WL.y (Yl.move rfl) rfl ?_
              refine WL.on rfl rfl ?_
              refine WL.y (Yl.loadN ag34 rfl (by repeat (first | exact Take1.head | apply Take1.tail)) (by rfl) (show _ = tmC o from rfl)) rfl ?_
              refine WL.on rfl rfl ?_
              refine WL.callC (xs := [.tmp 119, .tmp 120]) (cap := []) rfl rfl en18 (by repeat (first | exact TakeL.nil | (apply TakeL.cons; · repeat (first | exact Take1.head | apply Take1.tail)))) (fun w hw => can_any k16 n16 mk2 hmk2 o hoL.1 (by omega) w (hw.get (by repeat (first | exact Take1.head | apply Take1.tail))) (hw.get (by repeat (first | exact Take1.head | apply Take1.tail)))) rfl ?_
              rintro ⟨⟩ -
              refine WL.know (t := 121) (b' := true) rfl (can_grow hk1 hk3 g110) ?_
              refine WL.on rfl rfl ?_
              refine WL.y (Yl.not rfl) rfl ?_
              refine WL.y (Yl.pickT rfl rfl) rfl ?_
              refine WL.nil ?_
              refine WC.condF rfl (by first | rfl | (simp; done) | (simp; omega)) ?_
              refine WC.skip ?_
              refine WC.region ?_
              refine WL.y (Yl.add rfl rfl (IntWalk.i64_in _ (by omega))) rfl ?_
              refine WL.y (Yl.move rfl) rfl ?_
              refine WL.nil ?_
              exact ⟨rfl, (i3 + 1, (ao114, c114)), by dsimp only; omega, by dsimp only; omega, (by repeat (first | exact Sub.nil | refine Sub.cons rfl ?_)), _, (by repeat (first | exact TakeL.nil | (apply TakeL.cons; · repeat (first | exact Take1.head | apply Take1.tail))))⟩
            · refine WC.skip ?_
              refine WC.seq ?_
              refine WC.region ?_
              refine WL.y (Yl.move rfl) rfl ?_
              refine WL.y (Yl.loadN ag34 rfl (by repeat (first | exact Take1.head | apply Take1.tail)) (by rfl) (show _ = tmC o from rfl)) rfl ?_
              refine WL.callC (xs := [.tmp 115, .tmp 116]) (cap := []) rfl rfl en18 (by repeat (first | exact TakeL.nil | (apply TakeL.cons; · repeat (first | exact Take1.head | apply Take1.tail)))) (fun w hw => can_any k11 n11 mk hmk o hoL.1 (by omega) w (hw.get (by repeat (first | exact Take1.head | apply Take1.tail))) (hw.get (by repeat (first | exact Take1.head | apply Take1.tail)))) rfl ?_
              rintro ⟨⟩ -
              refine WL.know (t := 117) (b' := false) rfl g110 ?_
              refine WL.y (Yl.move rfl) rfl ?_
              refine WL.off rfl rfl rfl rfl ?_
              refine WL.off rfl rfl rfl rfl ?_
              refine WL.off rfl rfl rfl rfl ?_
              refine WL.off rfl rfl rfl rfl ?_
              refine WL.y (Yl.pickF rfl rfl) rfl ?_
              refine WL.nil ?_
              refine WC.condF rfl (by first | rfl | (simp; done) | (simp; omega)) ?_
              refine WC.skip ?_
              refine WC.region ?_
              refine WL.y (Yl.add rfl rfl (IntWalk.i64_in _ (by omega))) rfl ?_
              refine WL.y (Yl.move rfl) rfl ?_
              refine WL.nil ?_
              rw [g110] at hcn
              simp only [Bool.false_eq_true, if_false, List.append_nil] at hcn
              refine ⟨rfl, (i3 + 1, y3), by dsimp only; omega, by dsimp only; omega, ?_⟩
              dsimp only
              rw [hcn]
              exact ⟨(by repeat (first | exact Sub.nil | refine Sub.cons rfl ?_)), _, (by repeat (first | exact TakeL.nil | (apply TakeL.cons; · repeat (first | exact Take1.head | apply Take1.tail))))⟩
          · refine WC.exit ?_
            refine WC.seq ?_
            have hi3T : i3 = T.length := by have := g105; omega
            subst hi3T
            rw [List.take_length]
            obtain ⟨ca, hca⟩ : ∃ ca, canF mk T = ca := ⟨_, rfl⟩
            have hcaL : ∀ o ∈ ca, o ∈ T ∧ canB mk o = true := fun o ho => canF_mem (m := mk) (by rw [hca]; exact ho)
            have hcal := canF_len mk T
            rw [hca] at hcal ⊢
            have hgca : ∀ o ∈ g ++ ca, Lm o := fun o ho => (List.mem_append.1 ho).elim (hgL o) (fun h => hT0 o (hcaL o h).1)
            have hwca := wLs_lm hgca
            have hgcl : (g ++ ca).length = g.length + ca.length := List.length_append
            refine WC.region ?_
            refine WL.to (To.buildSlice (vs := []) un25 zs34 rfl rfl (by simp) (by decide) (by decide)) rfl ?_
            intro b125
            rw [show flat [] = [] from rfl]
            refine WL.view (fun w h => h.blkOwn (b := b125) (size := 1) (n := 0) (by repeat (first | exact Take1.head | apply Take1.tail)) (by unfold maxLen; omega) rfl) ?_
            refine WL.y (Yl.move rfl) rfl ?_
            refine WL.to (To.append sl25 rfl rfl (by repeat (first | exact Take1.head | apply Take1.tail)) (Reads.of (r := twinR (.slice zx.1 (g ++ [some SX, some HX, some H2, some PX]).length zx.2) 34 1 (g ++ [some SX, some HX, some H2, some PX]).length (vcs tmV (g ++ [some SX, some HX, some H2, some PX])) (.slice z.1 g.length z.2) g.length (vcs tmV g)) RdOf.twinO (by repeat (first | exact Take1.head | apply Take1.tail))) (vtM.ones _) (Nat.zero_add _) (List.nil_append _) (by unfold maxLen; omega) (by omega)) rfl ?_
            rintro ⟨⟨ao127, c127⟩, hc127⟩
            dsimp only at hc127 ⊢
            refine WL.y (Yl.move rfl) rfl ?_
            refine WL.to (To.append sl25 rfl rfl (by repeat (first | exact Take1.head | apply Take1.tail)) (Reads.of (r := ownR (.slice y3.1 ca.length y3.2) 34 1 ca.length (vcs tmV ca)) RdOf.own (by repeat (first | exact Take1.head | apply Take1.tail))) (vtM.ones _) (show g.length + ca.length = (g ++ ca).length by rw [hgcl]) (show vcs tmV g ++ vcs tmV ca = vcs tmV (g ++ ca) by rw [vcs_app]) (by rw [hgcl]; unfold maxLen; omega) (by rw [hgcl]; omega)) rfl ?_
            rintro ⟨⟨ao129, c129⟩, hc129⟩
            dsimp only at hc129 ⊢
            refine WL.callC (xs := [.tmp 129]) (cap := []) rfl rfl en13 (by repeat (first | exact TakeL.nil | (apply TakeL.cons; · repeat (first | exact Take1.head | apply Take1.tail)))) (fun w hw => close_any (g ++ ca) (fun o ho => (hgca o ho).t) (by omega) _ w (hw.src (A := []) (r := ownR (.slice ao129 (g ++ ca).length c129) 34 1 (g ++ ca).length (vcs tmV (g ++ ca))) RdOf.own (by repeat (first | exact Take1.head | apply Take1.tail))) hw.left.here) rfl ?_
            rintro ⟨k20, n20, mk3⟩ ⟨hk5, hk6⟩
            dsimp only [List.cons_append, List.nil_append] at hk5 hk6 ⊢
            have hmk3 : MpG mk3 := mpg_of hk6
            refine WL.y (Yl.assign rfl) rfl ?_
            refine WL.nil ?_
            refine WC.seq ?_
            refine WC.seq ?_
            refine WC.region ?_
            refine WL.y (Yl.move rfl) rfl ?_
            refine WL.y (Yl.len un25 rfl) rfl ?_
            refine WL.y (Yl.move rfl) rfl ?_
            refine WL.nil ?_
            refine WC.block ?_
            refine WC.loop (α := Nat) (fun j => [(2, .int .i64 more), (7, .slice ym.1 T.length ym.2), (11, .pointer (some ⟨k11, 0, none⟩)), (17, .slice y3.1 ca.length y3.2), (20, .pointer (some ⟨k20, 0, none⟩)), (131, .slice ym.1 T.length ym.2), (132, .int .i64 (T.length : Int)), (133, .int .i64 (j : Int))]) (fun _ => [blkR k20 78 [.map (some n20)], mapR tmV unV n20 mk3, blkR k11 78 [.map (some n11)], mapR tmV unV n11 mk, ownR (.slice ym.1 T.length ym.2) 34 1 T.length (vcs tmV T), ownR (.slice y3.1 ca.length y3.2) 34 1 ca.length (vcs tmV ca)]) (fun j => j ≤ T.length) (fun j => T.length - j) 0 (Nat.zero_le _) ⟨(by repeat (first | exact Sub.nil | refine Sub.cons rfl ?_)), _, (by repeat (first | exact TakeL.nil | (apply TakeL.cons; · repeat (first | exact Take1.head | apply Take1.tail))))⟩ ?_
            intro i4 hi4
            refine WC.seq ?_
            refine WC.region ?_
            refine WL.y (Yl.lss rfl rfl) rfl ?_
            refine WL.nil ?_
            refine WC.seq ?_
            refine WC.condD rfl (fun g134 => ?_) (fun g134 => ?_)
            · refine WC.skip ?_
              refine WC.seq ?_
              refine WC.block ?_
              refine WC.seq ?_
              have hil4 : i4 < T.length := by have := g134; omega
              obtain ⟨o, ho⟩ : ∃ o, T[i4]? = some o := ⟨_, List.getElem?_eq_getElem hil4⟩
              have hoL := hT0 o (List.mem_of_getElem? ho)
              have hoL2 := hoL.2
              have hag := can_again hk1 hk5 (fun o ho => (hcaL o ho).2) o
              refine WC.region ?_
              refine WL.y (Yl.index un25 sz34 rfl rfl (Reads.of (r := ownR (.slice ym.1 T.length ym.2) 34 1 T.length (vcs tmV T)) RdOf.own (by repeat (first | exact Take1.head | apply Take1.tail))) rfl (by omega)) rfl ?_
              refine WL.y (Yl.loadV vtM hO rfl (Reads.of (r := ownR (.slice ym.1 T.length ym.2) 34 1 T.length (vcs tmV T)) RdOf.own (by repeat (first | exact Take1.head | apply Take1.tail))) rfl ho) rfl ?_
              refine WL.to (To.alloc (cs := [.string (strOfNums [])]) zr34 rfl) rfl ?_
              intro b22
              refine WL.sto (Sto.agg sz34 rfl rfl (by repeat (first | exact Take1.head | apply Take1.tail)) (tm_ones _) rfl (by rfl) (show _ = tmC o from rfl)) (fun _ h => nomatch h) ?_
              refine WL.nil ?_
              refine WC.seq ?_
              refine WC.drawAny (Hs := [blkR b22 34 (tmC o), blkR k20 78 [.map (some n20)], mapR tmV unV n20 mk3, blkR k11 78 [.map (some n11)], mapR tmV unV n11 mk]) mixed (by kernel_rfl) ⟨_, (by repeat (first | exact TakeL.nil | (apply TakeL.cons; · repeat (first | exact Take1.head | apply Take1.tail))))⟩ ?_
              refine WD.take 0 rfl (by kernel_rfl) (by kernel_rfl) (by kernel_rfl) rfl rfl (Yl.move rfl) rfl ?_
              refine WD.take 1 rfl (by kernel_rfl) (by kernel_rfl) (by kernel_rfl) rfl rfl (Yl.loadN ag34 rfl (by repeat (first | exact Take1.head | apply Take1.tail)) (by rfl) (show _ = tmC o from rfl)) rfl ?_
              refine WD.take 3 rfl (by kernel_rfl) (by kernel_rfl) (by kernel_rfl) rfl rfl (Yl.move rfl) rfl ?_
              refine WD.take 4 rfl (by kernel_rfl) (by kernel_rfl) (by kernel_rfl) rfl rfl (Yl.loadN ag34 rfl (by repeat (first | exact Take1.head | apply Take1.tail)) (by rfl) (show _ = tmC o from rfl)) rfl ?_
              refine WD.one 2 (by kernel_rfl) ?_
              refine WO.callC (xs := [.tmp 137, .tmp 138]) (cap := []) rfl .no rfl rfl en18 (by repeat (first | exact TakeL.nil | (apply TakeL.cons; · repeat (first | exact Take1.head | apply Take1.tail)))) (fun w hw => can_any k20 n20 mk3 hmk3 o hoL.1 (by omega) w (hw.get (by repeat (first | exact Take1.head | apply Take1.tail))) (hw.get (by repeat (first | exact Take1.head | apply Take1.tail)))) rfl (fun _ => ⟨_, (by repeat (first | exact TakeL.nil | (apply TakeL.cons; · repeat (first | exact Take1.head | apply Take1.tail))))⟩) ?_
              rintro ⟨⟩ -
              refine WD.one 5 (by kernel_rfl) ?_
              refine WO.callC (xs := [.tmp 140, .tmp 141]) (cap := []) rfl .no rfl rfl en18 (by repeat (first | exact TakeL.nil | (apply TakeL.cons; · repeat (first | exact Take1.head | apply Take1.tail)))) (fun w hw => can_any k11 n11 mk hmk o hoL.1 (by omega) w (hw.get (by repeat (first | exact Take1.head | apply Take1.tail))) (hw.get (by repeat (first | exact Take1.head | apply Take1.tail)))) rfl (fun _ => ⟨_, (by repeat (first | exact TakeL.nil | (apply TakeL.cons; · repeat (first | exact Take1.head | apply Take1.tail))))⟩) ?_
              rintro ⟨⟩ -
              refine WD.take 6 rfl (by kernel_rfl) (by kernel_rfl) (by kernel_rfl) rfl rfl (Yl.bNe un4 rfl rfl) rfl ?_
              refine WD.know (t := 143) (b' := false) rfl (by rw [hag]; simp) ?_
              refine WD.done (by kernel_rfl) ?_
              refine WC.condF rfl (by first | rfl | (simp; done) | (simp; omega)) ?_
              refine WC.skip ?_
              refine WC.region ?_
              refine WL.y (Yl.add rfl rfl (IntWalk.i64_in _ (by omega))) rfl ?_
              refine WL.y (Yl.move rfl) rfl ?_
              refine WL.nil ?_
              exact ⟨rfl, i4 + 1, by omega, by omega, (by repeat (first | exact Sub.nil | refine Sub.cons rfl ?_)), _, (by repeat (first | exact TakeL.nil | (apply TakeL.cons; · repeat (first | exact Take1.head | apply Take1.tail))))⟩
            · refine WC.exit ?_
              refine WC.seq ?_
              refine WC.seq ?_
              refine WC.region ?_
              refine WL.y (Yl.move rfl) rfl ?_
              refine WL.y (Yl.len un25 rfl) rfl ?_
              refine WL.y (Yl.move rfl) rfl ?_
              refine WL.nil ?_
              refine WC.block ?_
              refine WC.loop (α := Nat) (fun j => [(2, .int .i64 more), (11, .pointer (some ⟨k11, 0, none⟩)), (17, .slice y3.1 ca.length y3.2), (145, .slice y3.1 ca.length y3.2), (146, .int .i64 (ca.length : Int)), (147, .int .i64 (j : Int))]) (fun _ => [blkR k11 78 [.map (some n11)], mapR tmV unV n11 mk, ownR (.slice y3.1 ca.length y3.2) 34 1 ca.length (vcs tmV ca)]) (fun j => j ≤ ca.length) (fun j => ca.length - j) 0 (Nat.zero_le _) ⟨(by repeat (first | exact Sub.nil | refine Sub.cons rfl ?_)), _, (by repeat (first | exact TakeL.nil | (apply TakeL.cons; · repeat (first | exact Take1.head | apply Take1.tail))))⟩ ?_
              intro i5 hi5
              have hcaO : AllO ca := fun o ho => (hT0 o (hcaL o ho).1).1
              refine WC.seq ?_
              refine WC.region ?_
              refine WL.y (Yl.lss rfl rfl) rfl ?_
              refine WL.nil ?_
              refine WC.seq ?_
              refine WC.condD rfl (fun g148 => ?_) (fun g148 => ?_)
              · refine WC.skip ?_
                refine WC.seq ?_
                refine WC.block ?_
                refine WC.seq ?_
                have hil5 : i5 < ca.length := by have := g148; omega
                obtain ⟨o, ho⟩ : ∃ o, ca[i5]? = some o := ⟨_, List.getElem?_eq_getElem hil5⟩
                obtain ⟨t, rfl, htT, htc⟩ := canF_some (m := mk) (T := T) (i := i5) (by rw [hca]; exact ho)
                have hpos : 0 < ca.length := by omega
                refine WC.region ?_
                refine WL.y (Yl.move rfl) rfl ?_
                refine WL.y (Yl.index un25 sz34 rfl rfl (Reads.of (r := ownR (.slice y3.1 ca.length y3.2) 34 1 ca.length (vcs tmV ca)) RdOf.own (by repeat (first | exact Take1.head | apply Take1.tail))) rfl (by omega)) rfl ?_
                refine WL.y (Yl.loadV vtM hcaO rfl (Reads.of (r := ownR (.slice y3.1 ca.length y3.2) 34 1 ca.length (vcs tmV ca)) RdOf.own (by repeat (first | exact Take1.head | apply Take1.tail))) rfl ho) rfl ?_
                refine WL.to (To.alloc (cs := [.string (strOfNums [])]) zr34 rfl) rfl ?_
                intro b24
                refine WL.y (Yl.assign rfl) rfl ?_
                refine WL.sto (Sto.agg sz34 rfl rfl (by repeat (first | exact Take1.head | apply Take1.tail)) (tm_ones _) rfl (by rfl) (show _ = tmC (some t) from rfl)) (fun _ h => nomatch h) ?_
                refine WL.nil ?_
                refine WC.seq ?_
                obtain ⟨mx, hmx⟩ : ∃ mx, (if 0 > more then 0 else more) = mx := ⟨_, rfl⟩
                have hmx0 : 0 ≤ mx := by rw [← hmx]; exact max0 more
                have hm1 := Int.emod_nonneg mx (show (ca.length : Int) ≠ 0 by omega)
                have hm2 := Int.emod_lt_of_pos mx (show (0 : Int) < ca.length by omega)
                have hm3 := Int.emod_nonneg ((i5 : Int) + mx % ca.length) (show (ca.length : Int) ≠ 0 by omega)
                have hm4 := Int.emod_lt_of_pos ((i5 : Int) + mx % ca.length) (show (0 : Int) < ca.length by omega)
                obtain ⟨r5, hr5⟩ : ∃ r : Nat, ((i5 : Int) + mx % ca.length) % ca.length = (r : Int) := ⟨(((i5 : Int) + mx % ca.length) % ca.length).toNat, by omega⟩
                obtain ⟨u0, hu0⟩ : ∃ o, ca[r5]? = some o := ⟨_, List.getElem?_eq_getElem (by omega)⟩
                obtain ⟨u, rfl, huT, huc⟩ := canF_some (m := mk) (T := T) (i := r5) (by rw [hca]; exact hu0)
                have htL := hT0 _ htT
                have huL := hT0 _ huT
                have htl2 : t.enc.length ≤ 40000 := htL.2
                have hul2 : u.enc.length ≤ 40000 := huL.2
                refine WC.region ?_
                refine WL.y (Yl.move rfl) rfl ?_
                refine WL.y (Yl.move rfl) rfl ?_
                refine WL.y (Yl.move rfl) rfl ?_
                refine WL.y (Yl.max2 rfl rfl) rfl ?_
                rw [hmx]
                refine WL.y (Yl.move rfl) rfl ?_
                refine WL.y (Yl.len un25 rfl) rfl ?_
                refine WL.y (Yl.rem rfl rfl (by omega) (i64_rem (by omega))) rfl ?_
                refine WL.y (Yl.add rfl rfl (IntWalk.i64_in _ (by omega))) rfl ?_
                refine WL.y (Yl.move rfl) rfl ?_
                refine WL.y (Yl.len un25 rfl) rfl ?_
                refine WL.y (Yl.rem rfl rfl (by omega) ((i64_rem (by omega)).trans hr5)) rfl ?_
                refine WL.y (Yl.index un25 sz34 rfl rfl (Reads.of (r := ownR (.slice y3.1 ca.length y3.2) 34 1 ca.length (vcs tmV ca)) RdOf.own (by repeat (first | exact Take1.head | apply Take1.tail))) rfl (by omega)) rfl ?_
                refine WL.y (Yl.loadV vtM hcaO rfl (Reads.of (r := ownR (.slice y3.1 ca.length y3.2) 34 1 ca.length (vcs tmV ca)) RdOf.own (by repeat (first | exact Take1.head | apply Take1.tail))) rfl hu0) rfl ?_
                refine WL.to (To.alloc (cs := [.string (strOfNums [])]) zr34 rfl) rfl ?_
                intro b25
                refine WL.sto (Sto.agg sz34 rfl rfl (by repeat (first | exact Take1.head | apply Take1.tail)) (tm_ones _) rfl (by rfl) (show _ = tmC (some u) from rfl)) (fun _ h => nomatch h) ?_
                refine WL.nil ?_
                have htO : OkO (some t) := htL.1
                have huO : OkO (some u) := huL.1
                have hpO : OkO (pubO (some u)) := pubO_ok huO
                have hptO : OkO (pubO (some t)) := pubO_ok htO
                have hpl : (encO (pubO (some u))).length = 1 + u.enc.length := pub_len u
                have hptl : (encO (pubO (some t))).length = 1 + t.enc.length := pub_len t
                have hsO : OkO (some (shT t u)) := fun s h => by cases h; exact sh_ok (htO _ rfl) (huO _ rfl)
                have hsl : (shT t u).enc.length = 1 + (t.enc.length + u.enc.length) := shT_len t u
                refine WC.midE (α := Nat) (fun b => [(26, .pointer (some ⟨b, 0, none⟩)), (27, .int .i64 0)]) (fun b => [blkR b 34 (tmC (some (shT t u))), blkR b24 34 (tmC (some t)), blkR b25 34 (tmC (some u)), blkR k11 78 [.map (some n11)], mapR tmV unV n11 mk, ownR (.slice y3.1 ca.length y3.2) 34 1 ca.length (vcs tmV ca)]) (fun _ => True) ?_ ?_
                · refine WC.drawAny (Hs := [blkR b24 34 (tmC (some t)), blkR b25 34 (tmC (some u))]) mixed (by kernel_rfl) ⟨_, (by repeat (first | exact TakeL.nil | (apply TakeL.cons; · repeat (first | exact Take1.head | apply Take1.tail))))⟩ ?_
                  refine WD.take 0 rfl (by kernel_rfl) (by kernel_rfl) (by kernel_rfl) rfl rfl (Yl.loadN ag34 rfl (by repeat (first | exact Take1.head | apply Take1.tail)) (by rfl) (show _ = tmC (some t) from rfl)) rfl ?_
                  refine WD.take 1 rfl (by kernel_rfl) (by kernel_rfl) (by kernel_rfl) rfl rfl (Yl.loadN ag34 rfl (by repeat (first | exact Take1.head | apply Take1.tail)) (by rfl) (show _ = tmC (some u) from rfl)) rfl ?_
                  refine WD.two 2 7 (by kernel_rfl) ?_ ?_
                  · refine WO.callC (xs := [.tmp 167]) (cap := []) rfl .no rfl rfl en17 (by repeat (first | exact TakeL.nil | (apply TakeL.cons; · repeat (first | exact Take1.head | apply Take1.tail)))) (fun w hw => public_any (some u) huO (show u.enc.length ≤ _ by omega) w hw.left.here) rfl (fun _ => ⟨_, (by repeat (first | exact TakeL.nil | (apply TakeL.cons; · repeat (first | exact Take1.head | apply Take1.tail))))⟩) ?_
                    rintro ⟨⟩ -
                    refine WD.two 3 7 (by kernel_rfl) ?_ ?_
                    · refine WO.callC (xs := [.tmp 166, .tmp 168]) (cap := []) rfl .no rfl rfl en19 (by repeat (first | exact TakeL.nil | (apply TakeL.cons; · repeat (first | exact Take1.head | apply Take1.tail)))) (fun w hw => shared_any (some t) (pubO (some u)) htO hpO (show t.enc.length + _ ≤ _ by omega) w hw.left.here) rfl (fun _ => ⟨_, (by repeat (first | exact TakeL.nil | (apply TakeL.cons; · repeat (first | exact Take1.head | apply Take1.tail))))⟩) ?_
                      rintro ⟨⟩ -
                      rw [sh_pub, show (if (some (shT t u)).isSome = true then (0 : Int) else 2) = 0 from rfl]
                      refine WD.take 4 rfl (by kernel_rfl) (by kernel_rfl) (by kernel_rfl) rfl rfl (Yl.move rfl) rfl ?_
                      refine WD.take 5 rfl (by kernel_rfl) (by kernel_rfl) (by kernel_rfl) rfl rfl (Yl.extract rfl rfl) rfl ?_
                      refine WD.take 6 rfl (by kernel_rfl) (by kernel_rfl) (by kernel_rfl) rfl rfl (Yl.extract rfl rfl) rfl ?_
                      refine WD.one 7 (by kernel_rfl) ?_
                      refine WO.to rfl rfl .no (To.alloc (cs := [.string (strOfNums [])]) zr34 rfl) rfl (fun _ => ⟨_, (by repeat (first | exact TakeL.nil | (apply TakeL.cons; · repeat (first | exact Take1.head | apply Take1.tail))))⟩) ?_
                      intro b26
                      refine WD.one 8 (by kernel_rfl) ?_
                      refine WO.sto rfl rfl .no (Sto.agg sz34 rfl rfl (by repeat (first | exact Take1.head | apply Take1.tail)) (tm_ones _) rfl (by rfl) (show _ = tmC (some (shT t u)) from rfl)) ⟨_, (by repeat (first | exact TakeL.nil | (apply TakeL.cons; · repeat (first | exact Take1.head | apply Take1.tail))))⟩ ?_
                      refine WD.take 9 rfl (by kernel_rfl) (by kernel_rfl) (by kernel_rfl) rfl rfl (Yl.assign rfl) rfl ?_
                      refine WD.done (by kernel_rfl) ?_
                      exact ⟨rfl, _, trivial, (by repeat (first | exact Sub.nil | refine Sub.cons rfl ?_)), (by repeat (first | exact Sub.nil | refine Sub.cons rfl ?_)), _, (by repeat (first | exact TakeL.nil | (apply TakeL.cons; · repeat (first | exact Take1.head | apply Take1.tail))))⟩
                    · refine WO.to rfl rfl .no (To.alloc (cs := [.string (strOfNums [])]) zr34 rfl) rfl (fun _ => ⟨_, (by repeat (first | exact TakeL.nil | (apply TakeL.cons; · repeat (first | exact Take1.head | apply Take1.tail))))⟩) ?_
                      intro b26
                      refine WD.one 3 (by kernel_rfl) ?_
                      refine WO.callC (xs := [.tmp 166, .tmp 168]) (cap := []) rfl .no rfl rfl en19 (by repeat (first | exact TakeL.nil | (apply TakeL.cons; · repeat (first | exact Take1.head | apply Take1.tail)))) (fun w hw => shared_any (some t) (pubO (some u)) htO hpO (show t.enc.length + _ ≤ _ by omega) w hw.left.here) rfl (fun _ => ⟨_, (by repeat (first | exact TakeL.nil | (apply TakeL.cons; · repeat (first | exact Take1.head | apply Take1.tail))))⟩) ?_
                      rintro ⟨⟩ -
                      rw [sh_pub, show (if (some (shT t u)).isSome = true then (0 : Int) else 2) = 0 from rfl]
                      refine WD.take 4 rfl (by kernel_rfl) (by kernel_rfl) (by kernel_rfl) rfl rfl (Yl.move rfl) rfl ?_
                      refine WD.take 5 rfl (by kernel_rfl) (by kernel_rfl) (by kernel_rfl) rfl rfl (Yl.extract rfl rfl) rfl ?_
                      refine WD.take 6 rfl (by kernel_rfl) (by kernel_rfl) (by kernel_rfl) rfl rfl (Yl.extract rfl rfl) rfl ?_
                      refine WD.one 8 (by kernel_rfl) ?_
                      refine WO.sto rfl rfl .no (Sto.agg sz34 rfl rfl (by repeat (first | exact Take1.head | apply Take1.tail)) (tm_ones _) rfl (by rfl) (show _ = tmC (some (shT t u)) from rfl)) ⟨_, (by repeat (first | exact TakeL.nil | (apply TakeL.cons; · repeat (first | exact Take1.head | apply Take1.tail))))⟩ ?_
                      refine WD.take 9 rfl (by kernel_rfl) (by kernel_rfl) (by kernel_rfl) rfl rfl (Yl.assign rfl) rfl ?_
                      refine WD.done (by kernel_rfl) ?_
                      exact ⟨rfl, _, trivial, (by repeat (first | exact Sub.nil | refine Sub.cons rfl ?_)), (by repeat (first | exact Sub.nil | refine Sub.cons rfl ?_)), _, (by repeat (first | exact TakeL.nil | (apply TakeL.cons; · repeat (first | exact Take1.head | apply Take1.tail))))⟩
                  · refine WO.to rfl rfl .no (To.alloc (cs := [.string (strOfNums [])]) zr34 rfl) rfl (fun _ => ⟨_, (by repeat (first | exact TakeL.nil | (apply TakeL.cons; · repeat (first | exact Take1.head | apply Take1.tail))))⟩) ?_
                    intro b26
                    refine WD.one 2 (by kernel_rfl) ?_
                    refine WO.callC (xs := [.tmp 167]) (cap := []) rfl .no rfl rfl en17 (by repeat (first | exact TakeL.nil | (apply TakeL.cons; · repeat (first | exact Take1.head | apply Take1.tail)))) (fun w hw => public_any (some u) huO (show u.enc.length ≤ _ by omega) w hw.left.here) rfl (fun _ => ⟨_, (by repeat (first | exact TakeL.nil | (apply TakeL.cons; · repeat (first | exact Take1.head | apply Take1.tail))))⟩) ?_
                    rintro ⟨⟩ -
                    refine WD.one 3 (by kernel_rfl) ?_
                    refine WO.callC (xs := [.tmp 166, .tmp 168]) (cap := []) rfl .no rfl rfl en19 (by repeat (first | exact TakeL.nil | (apply TakeL.cons; · repeat (first | exact Take1.head | apply Take1.tail)))) (fun w hw => shared_any (some t) (pubO (some u)) htO hpO (show t.enc.length + _ ≤ _ by omega) w hw.left.here) rfl (fun _ => ⟨_, (by repeat (first | exact TakeL.nil | (apply TakeL.cons; · repeat (first | exact Take1.head | apply Take1.tail))))⟩) ?_
                    rintro ⟨⟩ -
                    rw [sh_pub, show (if (some (shT t u)).isSome = true then (0 : Int) else 2) = 0 from rfl]
                    refine WD.take 4 rfl (by kernel_rfl) (by kernel_rfl) (by kernel_rfl) rfl rfl (Yl.move rfl) rfl ?_
                    refine WD.take 5 rfl (by kernel_rfl) (by kernel_rfl) (by kernel_rfl) rfl rfl (Yl.extract rfl rfl) rfl ?_
                    refine WD.take 6 rfl (by kernel_rfl) (by kernel_rfl) (by kernel_rfl) rfl rfl (Yl.extract rfl rfl) rfl ?_
                    refine WD.one 8 (by kernel_rfl) ?_
                    refine WO.sto rfl rfl .no (Sto.agg sz34 rfl rfl (by repeat (first | exact Take1.head | apply Take1.tail)) (tm_ones _) rfl (by rfl) (show _ = tmC (some (shT t u)) from rfl)) ⟨_, (by repeat (first | exact TakeL.nil | (apply TakeL.cons; · repeat (first | exact Take1.head | apply Take1.tail))))⟩ ?_
                    refine WD.take 9 rfl (by kernel_rfl) (by kernel_rfl) (by kernel_rfl) rfl rfl (Yl.assign rfl) rfl ?_
                    refine WD.done (by kernel_rfl) ?_
                    exact ⟨rfl, _, trivial, (by repeat (first | exact Sub.nil | refine Sub.cons rfl ?_)), (by repeat (first | exact Sub.nil | refine Sub.cons rfl ?_)), _, (by repeat (first | exact TakeL.nil | (apply TakeL.cons; · repeat (first | exact Take1.head | apply Take1.tail))))⟩
                · intro b26 _
                  have hpO2 : OkO (mkO 2 (some t) (some u)) := mkO_ok (.inl rfl) htO huO
                  have hsO2 : OkO (mkO 4 (some t) (some u)) := mkO_ok (.inr rfl) htO huO
                  have hpl2 : (encO (mkO 2 (some t) (some u))).length = 1 + (t.enc.length + u.enc.length) := pair_len t u
                  have hsl2 : (encO (mkO 4 (some t) (some u))).length = 1 + (t.enc.length + u.enc.length) := seal_len t u
                  have hhO2 : OkO (hashO 3 [some t, some u]) := fun s h => by cases h; exact hash_ok (by decide) (by simp) (by simp [htO t rfl, huO u rfl])
                  have hhl2 : (encO (hashO 3 [some t, some u])).length = 10 + (encs [t, u]).length := hash_len 3 [t, u]
                  rw [encs_len2] at hhl2
                  refine WC.seq ?_
                  refine WC.region ?_
                  refine WL.y (Yl.move rfl) rfl ?_
                  refine WL.y (Yl.loadN ag34 rfl (by repeat (first | exact Take1.head | apply Take1.tail)) (by rfl) (show _ = tmC (some t) from rfl)) rfl ?_
                  refine WL.y (Yl.loadN ag34 rfl (by repeat (first | exact Take1.head | apply Take1.tail)) (by rfl) (show _ = tmC (some u) from rfl)) rfl ?_
                  refine WL.callC (xs := [.tmp 173, .tmp 174]) (cap := []) rfl rfl en20 (by repeat (first | exact TakeL.nil | (apply TakeL.cons; · repeat (first | exact Take1.head | apply Take1.tail)))) (fun w hw => pair_any (some t) (some u) htO huO (show t.enc.length + u.enc.length ≤ _ by omega) w hw.left.here) rfl ?_
                  rintro ⟨⟩ -
                  refine WL.callC (xs := [.tmp 172, .tmp 175]) (cap := []) rfl rfl en18 (by repeat (first | exact TakeL.nil | (apply TakeL.cons; · repeat (first | exact Take1.head | apply Take1.tail)))) (fun w hw => can_any k11 n11 mk hmk (mkO 2 (some t) (some u)) hpO2 (by omega) w (hw.get (by repeat (first | exact Take1.head | apply Take1.tail))) (hw.get (by repeat (first | exact Take1.head | apply Take1.tail)))) rfl ?_
                  rintro ⟨⟩ -
                  refine WL.know (t := 176) (b' := true) rfl (cb_mk (by decide) (by decide) htc huc) ?_
                  refine WL.y (Yl.not rfl) rfl ?_
                  refine WL.y (Yl.move rfl) rfl ?_
                  refine WL.on rfl rfl ?_
                  refine WL.y (Yl.move rfl) rfl ?_
                  refine WL.on rfl rfl ?_
                  refine WL.y (Yl.loadN ag34 rfl (by repeat (first | exact Take1.head | apply Take1.tail)) (by rfl) (show _ = tmC (some t) from rfl)) rfl ?_
                  refine WL.on rfl rfl ?_
                  refine WL.y (Yl.loadN ag34 rfl (by repeat (first | exact Take1.head | apply Take1.tail)) (by rfl) (show _ = tmC (some u) from rfl)) rfl ?_
                  refine WL.on rfl rfl ?_
                  refine WL.callC (xs := [.tmp 180, .tmp 181]) (cap := []) rfl rfl en15 (by repeat (first | exact TakeL.nil | (apply TakeL.cons; · repeat (first | exact Take1.head | apply Take1.tail)))) (fun w hw => sealed_any (some t) (some u) htO huO (show t.enc.length + u.enc.length ≤ _ by omega) w hw.left.here) rfl ?_
                  rintro ⟨⟩ -
                  refine WL.on rfl rfl ?_
                  refine WL.callC (xs := [.tmp 179, .tmp 182]) (cap := []) rfl rfl en18 (by repeat (first | exact TakeL.nil | (apply TakeL.cons; · repeat (first | exact Take1.head | apply Take1.tail)))) (fun w hw => can_any k11 n11 mk hmk (mkO 4 (some t) (some u)) hsO2 (by omega) w (hw.get (by repeat (first | exact Take1.head | apply Take1.tail))) (hw.get (by repeat (first | exact Take1.head | apply Take1.tail)))) rfl ?_
                  rintro ⟨⟩ -
                  refine WL.know (t := 183) (b' := true) rfl (cb_mk (by decide) (by decide) htc huc) ?_
                  refine WL.on rfl rfl ?_
                  refine WL.y (Yl.not rfl) rfl ?_
                  refine WL.y (Yl.pickF rfl rfl) rfl ?_
                  refine WL.y (Yl.move rfl) rfl ?_
                  refine WL.on rfl rfl ?_
                  refine WL.y (Yl.move rfl) rfl ?_
                  refine WL.on rfl rfl ?_
                  refine WL.y (Yl.loadN ag34 rfl (by repeat (first | exact Take1.head | apply Take1.tail)) (by rfl) (show _ = tmC (some t) from rfl)) rfl ?_
                  refine WL.on rfl rfl ?_
                  refine WL.y (Yl.loadN ag34 rfl (by repeat (first | exact Take1.head | apply Take1.tail)) (by rfl) (show _ = tmC (some u) from rfl)) rfl ?_
                  refine WL.on rfl rfl ?_
                  refine WL.to (To.buildSlice (vs := [tmV (some t), tmV (some u)]) un25 zs34 rfl rfl (by simp [Value.cells, tmV, tmC]) (by decide) (by decide)) rfl ?_
                  intro b190
                  rw [show flat [tmV (some t), tmV (some u)] = vcs tmV [some t, some u] from rfl]
                  refine WL.on rfl rfl ?_
                  refine WL.callC (xs := [_, .tmp 190]) (cap := []) rfl rfl en16 (by repeat (first | exact TakeL.nil | (apply TakeL.cons; · repeat (first | exact Take1.head | apply Take1.tail)))) (fun w hw => hash_any 3 (by decide) _ [some t, some u] (by intro o ho; simp only [List.mem_cons, List.not_mem_nil, or_false] at ho; rcases ho with rfl | rfl <;> assumption) (fun _ => by simp [flO, lenO]; omega) w (hw.src (A := []) (RdOf.blk (size := 1) (n := 2) (cs := vcs tmV [some t, some u]) (cs' := vcs tmV [some t, some u]) (Nat.le_refl _) (by unfold maxLen; omega) (by simp [vcs, tmV, tmC, flat, Value.cells]) rfl) (by repeat (first | exact Take1.head | apply Take1.tail))) hw.left.here) rfl ?_
                  rintro ⟨⟩ -
                  refine WL.on rfl rfl ?_
                  refine WL.callC (xs := [.tmp 187, .tmp 191]) (cap := []) rfl rfl en18 (by repeat (first | exact TakeL.nil | (apply TakeL.cons; · repeat (first | exact Take1.head | apply Take1.tail)))) (fun w hw => can_any k11 n11 mk hmk (hashO 3 [some t, some u]) hhO2 (by omega) w (hw.get (by repeat (first | exact Take1.head | apply Take1.tail))) (hw.get (by repeat (first | exact Take1.head | apply Take1.tail)))) rfl ?_
                  rintro ⟨⟩ -
                  refine WL.know (t := 192) (b' := true) rfl (cb_hash 3 htc huc) ?_
                  refine WL.on rfl rfl ?_
                  refine WL.y (Yl.not rfl) rfl ?_
                  refine WL.y (Yl.pickF rfl rfl) rfl ?_
                  refine WL.y (Yl.move rfl) rfl ?_
                  refine WL.on rfl rfl ?_
                  refine WL.y (Yl.move rfl) rfl ?_
                  refine WL.on rfl rfl ?_
                  refine WL.y (Yl.loadN ag34 rfl (by repeat (first | exact Take1.head | apply Take1.tail)) (by rfl) (show _ = tmC (some t) from rfl)) rfl ?_
                  refine WL.on rfl rfl ?_
                  refine WL.callC (xs := [.tmp 197]) (cap := []) rfl rfl en17 (by repeat (first | exact TakeL.nil | (apply TakeL.cons; · repeat (first | exact Take1.head | apply Take1.tail)))) (fun w hw => public_any (some t) htO (show t.enc.length ≤ _ by omega) w hw.left.here) rfl ?_
                  rintro ⟨⟩ -
                  refine WL.on rfl rfl ?_
                  refine WL.callC (xs := [.tmp 196, .tmp 198]) (cap := []) rfl rfl en18 (by repeat (first | exact TakeL.nil | (apply TakeL.cons; · repeat (first | exact Take1.head | apply Take1.tail)))) (fun w hw => can_any k11 n11 mk hmk (pubO (some t)) hptO (by omega) w (hw.get (by repeat (first | exact Take1.head | apply Take1.tail))) (hw.get (by repeat (first | exact Take1.head | apply Take1.tail)))) rfl ?_
                  rintro ⟨⟩ -
                  refine WL.know (t := 199) (b' := true) rfl (cb_pub htc) ?_
                  refine WL.on rfl rfl ?_
                  refine WL.y (Yl.not rfl) rfl ?_
                  refine WL.y (Yl.pickF rfl rfl) rfl ?_
                  refine WL.y (Yl.move rfl) rfl ?_
                  refine WL.on rfl rfl ?_
                  refine WL.y (Yl.move rfl) rfl ?_
                  refine WL.on rfl rfl ?_
                  refine WL.y (Yl.neq rfl rfl) rfl ?_
                  refine WL.know (t := 204) (b' := false) rfl (by first | rfl | (simp; done) | (simp; omega)) ?_
                  refine WL.y (Yl.pickF rfl rfl) rfl ?_
                  refine WL.y (Yl.move rfl) rfl ?_
                  refine WL.on rfl rfl ?_
                  refine WL.y (Yl.move rfl) rfl ?_
                  refine WL.on rfl rfl ?_
                  refine WL.y (Yl.loadN ag34 rfl (by repeat (first | exact Take1.head | apply Take1.tail)) (by rfl) (show _ = tmC (some (shT t u)) from rfl)) rfl ?_
                  refine WL.on rfl rfl ?_
                  refine WL.callC (xs := [.tmp 207, .tmp 208]) (cap := []) rfl rfl en18 (by repeat (first | exact TakeL.nil | (apply TakeL.cons; · repeat (first | exact Take1.head | apply Take1.tail)))) (fun w hw => can_any k11 n11 mk hmk (some (shT t u)) hsO (show (shT t u).enc.length ≤ _ by omega) w (hw.get (by repeat (first | exact Take1.head | apply Take1.tail))) (hw.get (by repeat (first | exact Take1.head | apply Take1.tail)))) rfl ?_
                  rintro ⟨⟩ -
                  refine WL.know (t := 209) (b' := true) rfl (cb_sh htc huc) ?_
                  refine WL.on rfl rfl ?_
                  refine WL.y (Yl.not rfl) rfl ?_
                  refine WL.y (Yl.pickF rfl rfl) rfl ?_
                  refine WL.nil ?_
                  refine WC.condF rfl (by first | rfl | (simp; done) | (simp; omega)) ?_
                  refine WC.skip ?_
                  refine WC.region ?_
                  refine WL.y (Yl.add rfl rfl (IntWalk.i64_in _ (by omega))) rfl ?_
                  refine WL.y (Yl.move rfl) rfl ?_
                  refine WL.nil ?_
                  exact ⟨rfl, i5 + 1, by omega, by omega, (by repeat (first | exact Sub.nil | refine Sub.cons rfl ?_)), _, (by repeat (first | exact TakeL.nil | (apply TakeL.cons; · repeat (first | exact Take1.head | apply Take1.tail))))⟩
              · refine WC.exit ?_
                refine WC.seq ?_
                refine WC.region ?_
                refine WL.y (Yl.assign rfl) rfl ?_
                refine WL.nil ?_
                refine WC.ret ?_
                repeat (first | (with_reducible refine peelT ?_) | (with_reducible refine peelB ?_) | (with_reducible refine peelTX ?_) | (with_reducible refine peelBX ?_) | (with_reducible refine peelBN ?_) | (with_reducible refine peelBO rfl ?_))
                exact ret1 (.inr rfl) Try.results4 rfl fun w' h => ⟨(), trivial, rfl, h.sub (by repeat (first | exact TakeL.nil | (apply TakeL.cons; · repeat (first | exact Take1.head | apply Take1.tail))))⟩
end Go.Proofs.Ytifhkjcimhhaiaa

namespace Go.Proofs.Ytifhkjcimhhaiaa
open Go Go.RowKit
theorem moreR_any (l : List Dn) (a : Option Addr) (cp : Nat) (c : List Bool) (ac : Option Addr) (cc : Nat) (more : Int) (hm : (Lit.int .i64 more).wf = true) (hl : l.length ≤ 1048576) (hd : ∀ x ∈ l, x.d.ok ∧ x.d.l.length ≤ 1048576) (hc : c.length ≤ 1048576) (w : World) (hw : OK w (fpL [dnR (.slice a l.length cp) l, rdR (.slice ac c.length cc) 1 c.length (vcs Value.bool c)]) [dnR (.slice a l.length cp) l, rdR (.slice ac c.length cc) 1 c.length (vcs Value.bool c)] w) :
    Fn Try.prog 4 [.slice a l.length cp, .slice ac c.length cc, .int .i64 more] [dnR (.slice a l.length cp) l, rdR (.slice ac c.length cc) 1 c.length (vcs Value.bool c)] w (fun _ : Unit => True) (fun _ => .bool true) (fun _ => []) :=
  fn_up (more_any l _ _ c more (by omega) (fun x hx => (hd x hx).1) (fun x hx => by have := (hd x hx).2; omega) (by omega) (wf_i64' hm).2 w (dn_src (hw.get .head)) (OK.src0 (hw.get (r := rdR (.slice ac c.length cc) 1 c.length (vcs Value.bool c)) (.tail .head)) (fun k _ ⟨r, hr, _⟩ => nomatch hr)) (OK.nil w _))
end Go.Proofs.Ytifhkjcimhhaiaa
