/- An iterator that leans on less while it goes than where it begins: general lemmas of this claim's own, about no program in particular. -/
import Derived.Test.YtfobhdmhjjafcaaGreatDoorRRLibQ
namespace Go.Proofs.YtfobhdmhjjafcaaGreatDoorRR
open Go Go.RowKit

section
variable {P : Program}
/-- What an iterator promises that is called at once: own: the blocks that it leans on from its first round on; where it begins all is as it is now. -/
def IterN (P : Program) (gf : Nat) (lb : Array Value) (own : Nat → Prop) (xs : List (Array Value)) (w0 : World) : Prop :=
  ∀ (l : Nat) (T0 : Nat → Prop) (J Jx : Nat → (Nat → Prop) → World → Prop) (W : World),
    Chg noB w0 W →
    (∀ k, own k → k < W.heap.size) →
    (∀ k, T0 k → k < W.heap.size ∧ ¬ own k) →
    (∀ i T A B, J i T A → Chg (fun k => W.heap.size ≤ k ∧ ¬ T k) A B → J i T B) →
    (∀ i T A B, Jx i T A → Chg (fun k => W.heap.size ≤ k ∧ ¬ T k) A B → Jx i T B) →
    (∀ i x T W1, xs[i]? = some x → J i T W1 → W.heap.size ≤ W1.heap.size → (∀ k, T k → k < W1.heap.size) → YieldAt (FW none) 0 P l x W1 fun e W' =>
      (e = .returned (.bool true) ∧ ∃ T', J (i + 1) T' W' ∧ Chg T W1 W' ∧ Adds T T' W1 W') ∨ (e = .returned (.bool false) ∧ ∃ T', Jx i T' W' ∧ Chg T W1 W' ∧ Adds T T' W1 W')) →
    J 0 T0 W →
    CallsIn (FW none) 0 P gf (#[.func (.yield l) #[] #[]] ++ lb) W fun e W' => (∃ v, e = .returned v) ∧ ((∃ T, J xs.length T W') ∨ ∃ i T, i < xs.length ∧ Jx i T W')

/-- The statement 'for .. := range g { .. }' outside of every round, over an iterator that has its promise. -/
theorem wpIn_rangeN {g : Operand} {ps : Array Tmp} {assign body : Code} {Q : Exit → Act → World → Prop} {a : Act} {w : World}
    {gf : Nat} {lb : Array Value} {own : Nat → Prop} {xs : List (Array Value)} (hseq : IterN P gf lb own xs w)
    (T0 : Nat → Prop) (J : Nat → (Nat → Prop) → World → Prop) (Jx : Code → Nat → (Nat → Prop) → World → Prop)
    (hg : a.eval g = .func (.func gf) #[] lb) (eg : ∀ args w, (callFunc gf args).run P w = .ok (.enter gf args) w)
    (hps : ∀ x ∈ xs, x.size = ps.size) (ho0 : ∀ k, own k → k < w.heap.size)
    (hT0 : ∀ k, T0 k → k < w.heap.size ∧ ¬ own k)
    (hJ : ∀ i T A B, J i T A → Chg (fun k => w.heap.size ≤ k ∧ ¬ T k) A B → J i T B) (hJx : ∀ c i T A B, Jx c i T A → Chg (fun k => w.heap.size ≤ k ∧ ¬ T k) A B → Jx c i T B)
    (h0 : J 0 T0 w)
    (hbody : RndOk P ps assign body a w.heap.size xs J Jx)
    (hdone : ∀ D T W, w.heap.size ≤ D → W.heap[D]? = some (.deferred (some [])) → ¬ T D → J xs.length T W → Q .normal { a with defers := { target := .collected D, args := #[] } :: a.defers } W)
    (hstop : ∀ D c i T W, w.heap.size ≤ D → W.heap[D]? = some (.deferred (some [])) → ¬ T D → i < xs.length → Jx c i T W → c.wpIn (FW none) 0 P Q { a with defers := { target := .collected D, args := #[] } :: a.defers } W) :
    (Code.rangeFunc g ps assign body).wpIn (FW none) 0 P Q a w := by
  refine wpIn_rangeFunc ?_
  intro fn _
  obtain ⟨rec, hrec⟩ : ∃ rec : LoopState → Option Code → Loop, rec = fun st pe => { state := st, pending := pe, fn, tmps := a.tmps, params := ps, assign, body, defers := w.heap.size } := ⟨_, rfl⟩
  obtain ⟨W1, hW1⟩ : ∃ W1, (w.alloc (.deferred (some []))).alloc (.loop (rec .ready none)) = W1 := ⟨_, rfl⟩
  have hL1 : W1.heap[w.heap.size + 1]? = some (.loop (rec .ready none)) := by
    rw [← hW1]; have := World.alloc_heap_new (w.alloc (.deferred (some []))) (.loop (rec .ready none)); rwa [World.size_alloc] at this
  have hK1 : W1.heap[w.heap.size]? = some (.deferred (some [])) := by
    rw [← hW1]; exact (Below.heap_alloc _ _ _ (by simp)).trans (World.alloc_heap_new w _)
  have hsz : W1.heap.size = w.heap.size + 2 := by rw [← hW1]; simp
  have hc1 : ∀ T, Chg T w W1 := fun T => by rw [← hW1]; exact (Chg.alloc _ _ _).trans (Chg.alloc _ _ _)
  obtain ⟨L, hL⟩ : ∃ L, L = w.heap.size + 1 := ⟨_, rfl⟩
  refine ⟨L, [{ target := .collected w.heap.size, args := #[] }], W1, { target := .fn (.func gf) lb, args := #[.func (.yield L) #[] #[]] }, W1, gf,
    #[.func (.yield L) #[] #[]] ++ lb, W1, ?_, ?_, ?_, ?_, fun h => by simp at h, ?_⟩
  · rw [← hW1, hrec, hL]; exact run_enterLoop_outer _ _ _ _ _
  · simp only [resolve, hg]
    simp [go_sem]
  · intro f' hf'; trivial
  · simp [invoke, go_sem, eg]
  · rw [← hL] at hL1
    refine (hseq L (fun k => T0 k ∨ k = L)
      (fun i T W => ∃ T', (∀ k, T k ↔ T' k ∨ k = L) ∧ ¬ T' L ∧ ¬ T' w.heap.size ∧ (∀ k, T' k → k < W.heap.size) ∧ J i T' W ∧ W.heap[L]? = some (.loop (rec .ready none)) ∧ W.heap[w.heap.size]? = some (.deferred (some [])))
      (fun i T W => ∃ T' c, (∀ k, T k ↔ T' k ∨ k = L) ∧ ¬ T' L ∧ ¬ T' w.heap.size ∧ Jx c i T' W ∧ W.heap[L]? = some (.loop (rec .done (some c))) ∧ W.heap[w.heap.size]? = some (.deferred (some [])))
      W1 (hc1 _) (fun k hk => by have := ho0 k hk; omega) ?_ ?_ ?_ ?_
      ⟨T0, fun _ => Iff.rfl, fun h => by have := (hT0 _ h).1; omega, fun h => by have := (hT0 _ h).1; omega, fun k hk => by have := (hT0 k hk).1; omega, hJ _ _ _ _ h0 (hc1 _), hL1, hK1⟩).mono ?_
    · rintro k (hk | rfl)
      · exact ⟨by have := (hT0 k hk).1; omega, (hT0 k hk).2⟩
      · exact ⟨by omega, fun h => by have := ho0 _ h; omega⟩
    · rintro i T A B ⟨T', ht, hn1, hn2, hTs, h1, h2, h3⟩ hc
      have hn : ∀ k, k < w.heap.size + 2 → ¬ (W1.heap.size ≤ k ∧ ¬ T k) := fun k hk h => by omega
      exact ⟨T', ht, hn1, hn2, fun k hk => Nat.lt_of_lt_of_le (hTs k hk) hc.size, hJ _ _ _ _ h1 (hc.mono (fun k _ hk => ⟨by omega, fun h => hk.2 ((ht k).2 (.inl h))⟩)), hc.heap h2 (hn _ (by omega)), hc.heap h3 (hn _ (by omega))⟩
    · rintro i T A B ⟨T', c, ht, hn1, hn2, h1, h2, h3⟩ hc
      have hn : ∀ k, k < w.heap.size + 2 → ¬ (W1.heap.size ≤ k ∧ ¬ T k) := fun k hk h => by omega
      exact ⟨T', c, ht, hn1, hn2, hJx _ _ _ _ _ h1 (hc.mono (fun k _ hk => ⟨by omega, fun h => hk.2 ((ht k).2 (.inl h))⟩)), hc.heap h2 (hn _ (by omega)), hc.heap h3 (hn _ (by omega))⟩
    · rintro i x T W hx ⟨T', ht, hn1, hn2, hTs, h1, h2, h3⟩ hle hTW
      have hlt := lt_of_heap h2
      have hput : ∀ (U : Nat → Prop) (A : World) (o : Obj), ¬ U L → Chg (fun k => w.heap.size ≤ k ∧ ¬ U k) A (A.putObj L o) := fun U A o hU => Chg.putObj _ _ _ (fun _ => ⟨by omega, hU⟩)
      refine (round_core (ro := none) hrec hn1 (hps x (List.mem_of_getElem? hx)) (J := J (i + 1)) (Jx := fun c => Jx c i) h2 ?_ ?_ ?_).mono ?_
      · intro U A o h hU; exact hJ _ _ _ _ h (hput U A o hU)
      · intro c U A o h hU; exact hJx _ _ _ _ _ h (hput U A o hU)
      · intro hr; exact hbody L i x T' W hx h1 (by omega) hn1 hr hTs
      · have keyD : ∀ (U : Nat → Prop) (W' : World), Adds T' U W W' → ¬ U w.heap.size := fun U W' hA h => by
          rcases hA _ h with h | h
          · exact hn2 h
          · omega
        have keyA : ∀ (U : Nat → Prop) (W' : World), Adds T' U W W' → Adds T (fun k => U k ∨ k = L) W W' := fun U W' hA k hk => by
          rcases hk with hk | rfl
          · rcases hA k hk with h | h
            · exact .inl ((ht k).2 (.inl h))
            · exact .inr h
          · exact .inl ((ht k).2 (.inr rfl))
        have keyC : ∀ (W' : World), Chg (fun k => T' k ∨ k = L) W W' → Chg T W W' := fun W' h => h.mono (fun k _ hk => (ht k).2 hk)
        have keyS : ∀ (U : Nat → Prop) (W' : World), Adds T' U W W' → W.heap.size ≤ W'.heap.size → ∀ k, U k → k < W'.heap.size := fun U W' hA hs k hk => by
          rcases hA k hk with h | h
          · exact Nat.lt_of_lt_of_le (hTs k h) hs
          · exact h.2
        have hD : ¬ (T' w.heap.size ∨ w.heap.size = L) := fun h => by
          rcases h with h | h
          · exact hn2 h
          · omega
        rintro e W' (⟨rfl, U, h4, hU, h5, h6, hA⟩ | ⟨rfl, c, U, h4, hU, h5, h6, hA⟩)
        · exact .inl ⟨rfl, fun k => U k ∨ k = L, ⟨U, fun _ => Iff.rfl, hU, keyD U W' hA, keyS U W' hA h6.size, h4, h5, h6.heap h3 hD⟩, keyC _ h6, keyA _ _ hA⟩
        · exact .inr ⟨rfl, fun k => U k ∨ k = L, ⟨U, c, fun _ => Iff.rfl, hU, keyD U W' hA, h4, h5, h6.heap h3 hD⟩, keyC _ h6, keyA _ _ hA⟩
    · have hput : ∀ (U : Nat → Prop) (A : World) (o : Obj), ¬ U L → Chg (fun k => w.heap.size ≤ k ∧ ¬ U k) A (A.putObj L o) := fun U A o hU => Chg.putObj _ _ _ (fun _ => ⟨by omega, hU⟩)
      rintro e W2 ⟨⟨v, rfl⟩, (⟨T, T', ht, hn1, hn2, hTs, h1, h2, h3⟩ | ⟨i, T, hi, T', c, ht, hn1, hn2, h1, h2, h3⟩)⟩
      · refine ⟨none, _, by have := run_endLoop (P := P) h2 (by rw [hrec]; simp); rw [hrec] at this; exact this, ?_⟩
        exact hdone _ T' _ (Nat.le_refl _) ((World.putObj_heap_other (by omega)).trans h3) hn2 (hJ _ _ _ _ h1 (hput _ _ _ hn1))
      · refine ⟨some c, _, by have := run_endLoop (P := P) h2 (by rw [hrec]; simp); rw [hrec] at this; exact this, ?_⟩
        exact hstop _ c i T' _ (Nat.le_refl _) ((World.putObj_heap_other (by omega)).trans h3) hn2 hi (hJx _ _ _ _ _ h1 (hput _ _ _ hn1))

end

section
variable {P : Program} {n : Nat} {w0 : World} {S : Pm} {Q : SQ} {env : Env} {ds : List Deferred} {H H2 F : List Res}

theorem WC.rangeN {g : Operand} {ps : Array Tmp} {assign body : Code} {α : Type} {gf : Nat} {lb : List Value} {A : List Res} {xs : List (Array Value)}
    (R : Nat → α → List Res) (okp : Nat → α → Prop) (s0 : α)
    (hg : ev env g = some (.func (.func gf) #[] lb.toArray)) (eg : ∀ args w, (callFunc gf args).run P w = .ok (.enter gf args) w) (hps : ∀ x ∈ xs, x.size = ps.size) (hpn : (ps.toList.all fun p => Nat.blt p n) = true)
    (tk : TakeL H A H2) (hi : ∀ w, OK w0 S H w → IterN P gf lb.toArray (fpL A).rd xs w) (h0 : okp 0 s0) (tk2 : TakeL H2 (R 0 s0) F)
    (hb : ∀ l i x s, xs[i]? = some x → okp i s → ∀ W, WC ⟨P, some l, n, W, fpL (R i s)⟩ assign (thenS (fun env' ds' H' => ∀ W2, WC ⟨P, some l, n, W2, fpL H'⟩ body (rndS Q env ds (A ++ F) (fun H1 => ∃ s', okp (i + 1) s' ∧ H1 = R (i + 1) s')) env' ds' H') (fun _ _ _ _ => False)) (psEnv env ps.toList x.toList) [] (R i s))
    (hd : ∀ s D, okp xs.length s → Q .normal env (dM D :: ds) (objR D (.deferred (some [])) :: (R xs.length s ++ (A ++ F)))) :
    WC ⟨P, none, n, w0, S⟩ (.rangeFunc g ps assign body) Q env ds H := by
  refine ⟨fun a w ha hw => ?_⟩
  obtain ⟨FF, hFF⟩ : ∃ FF, FF = A ++ F := ⟨_, rfl⟩
  have hw1 : OK w0 S (A ++ H2) w := hw.perm tk.perm
  have hit : IterN P gf lb.toArray (fpL A).rd xs w ∧ ∀ k, (fpL A).rd k → k < w.heap.size := ⟨hi w hw, fun k ⟨r, hr, hk⟩ => r.lt w (hw1.all r (List.mem_append_left _ hr)) k hk⟩
  have hw2 : OK w0 S (R 0 s0 ++ FF) w := by
    rw [hFF]
    exact hw.perm (tk.perm.trans ((tk2.perm.append_left A).trans (by rw [← List.append_assoc, ← List.append_assoc]; exact List.perm_append_comm.append_right F)))
  have hlt : ∀ r ∈ FF, ∀ k, r.fp k → k < w.heap.size := fun r hr k hk => r.lt w (hw2.all r (List.mem_append_right _ hr)) k hk
  have hsz0 := hw.chg.size
  have stab : ∀ (H1 : List Res) (A B : World), OK w0 S (H1 ++ FF) A → Chg (fun k => w.heap.size ≤ k ∧ ¬ fpT w.heap.size H1 k) A B → OK w0 S (H1 ++ FF) B := by
    intro H1 A B h hc
    refine h.chgd hc (fun k hk hD => ?_) (fun r hr k hk hD => ?_)
    · have hD1 := hD.1
      have : w0.heap.size ≤ w.heap.size := hsz0
      omega
    · rcases List.mem_append.1 hr with hr | hr
      · exact hD.2 (.inr ⟨⟨r, hr, hk⟩, hD.1⟩)
      · have := hlt r hr k hk
        have := hD.1
        omega
  have addD : ∀ (H1 : List Res) (D : Nat) (W : World), OK w0 S (H1 ++ FF) W → w.heap.size ≤ D → W.heap[D]? = some (.deferred (some [])) → ¬ fpT w.heap.size H1 D → OK w0 S (objR D (.deferred (some [])) :: (H1 ++ FF)) W := by
    intro H1 D W h hD hdef hT
    refine h.addR hdef (fun k hk => by cases hk; have : w0.heap.size ≤ w.heap.size := hsz0; omega) (fun s hs k hk hsk => ?_)
    cases hk
    rcases List.mem_append.1 hs with hs | hs
    · exact hT (.inr ⟨⟨s, hs, hsk⟩, hD⟩)
    · have := hlt s hs D hsk
      omega
  refine wpIn_rangeN (P := P) (own := (fpL A).rd) (xs := xs) hit.1 (fpT w.heap.size (R 0 s0))
    (fun i T W => ∃ s, okp i s ∧ OK w0 S (R i s ++ FF) W ∧ T = fpT w.heap.size (R i s) ∧ w.heap.size ≤ W.heap.size)
    (fun cd i T W => ∃ e H1, ((cd = .ret ∧ e = .ret) ∨ ∃ id, cd = .exit id ∧ e = .exit id) ∧ OK w0 S (H1 ++ FF) W ∧ T = fpT w.heap.size H1 ∧ w.heap.size ≤ W.heap.size ∧ ∀ D, Q e env (dM D :: ds) (objR D (.deferred (some [])) :: (H1 ++ FF)))
    (ha.ev hg) eg hps hit.2 ?_ ?_ ?_ ⟨s0, h0, hw2, rfl, Nat.le_refl _⟩ ?_ ?_ ?_
  · intro k hk
    rcases hk with ⟨r, hr, hk⟩ | ⟨⟨r, hr, hk⟩, hB⟩
    · refine ⟨r.lt w (hw2.all r (List.mem_append_left _ hr)) k (r.sub k hk), fun ho => ?_⟩
      obtain ⟨s, hs, hsk⟩ := ho
      exact ((List.pairwise_append.1 hw2.dis).2.2 r hr s (by rw [hFF]; exact List.mem_append_left _ hs)).1 k hk hsk
    · have := r.lt w (hw2.all r (List.mem_append_left _ hr)) k hk
      omega
  · rintro i T A B ⟨s, h1, h2, rfl, h3⟩ hc
    exact ⟨s, h1, stab _ _ _ h2 hc, rfl, Nat.le_trans h3 hc.size⟩
  · rintro cd i T A B ⟨e, H1, h1, h2, rfl, h3, h4⟩ hc
    exact ⟨e, H1, h1, stab _ _ _ h2 hc, rfl, Nat.le_trans h3 hc.size, h4⟩
  · rintro l i x T W hx ⟨s, hs, hok, rfl, hsz⟩ hBl hTl hr hTlt
    obtain ⟨rec, hrec⟩ := hr
    have hlW := lt_of_heap hrec
    have hps' := Has.ps (n := n) ps.toList x.toList env { a with defers := [] } hpn ⟨ha.1, rfl, ha.2.2⟩
    have e0 : (ps.zip x).foldl (fun t (p, v) => t.setIfInBounds p v) a.tmps = (ps.toList.zip x.toList).foldl (fun t (p, v) => t.setIfInBounds p v) a.tmps := by
      rw [← Array.foldl_toList, Array.toList_zip]
    rw [e0]
    refine Go.wpIn_mono ((hb l i x s hx hs W).run _ W hps' hok.left.here) ?_
    rintro e a1 W1 ⟨_, env', ds', H', g1, g2, g3⟩
    cases e with
    | normal =>
      refine ⟨g2.chg.mono (fun k _ hk => .inl hk), fun W2 hc hs2 hr2 => ?_⟩
      have hfl : ∀ r ∈ H', ∀ k, r.fp k → ¬ oneB l k := by
        intro r hr k hk he
        cases he
        exact hTl (.inr ⟨g2.locF r hr _ hk hlW, hBl⟩)
      have ok2 : OK W2 (fpL H') H' W2 := ⟨Chg.refl _ _, fun r hr => r.st W1 W2 _ (g2.all r hr) hc (hfl r hr), fun r hr k hk _ => ⟨r, hr, hk⟩, fun r hr k hk _ => ⟨r, hr, hk⟩, g2.dis⟩
      have big2 : OK w0 S (H' ++ FF) W2 := by
        refine (hok.upd g2).chgd hc (fun k hk he => ?_) (fun r hr k hk he => ?_)
        · cases he
          have : w0.heap.size ≤ w.heap.size := hsz0
          omega
        · rcases List.mem_append.1 hr with hr | hr
          · exact hfl r hr k hk he
          · cases he
            have := hlt r hr _ hk
            omega
      refine Go.wpIn_mono ((g3 W2).run a1 W2 g1 ok2) ?_
      rintro e a3 W3 ⟨_, env3, ds3, H3, k1, k2, k3⟩
      have fin : ∀ H1, OK W2 (fpL H') H1 W3 → OK w0 S (H1 ++ FF) W3 ∧ w.heap.size ≤ W3.heap.size ∧ Chg (fun k => fpT w.heap.size (R i s) k ∨ W.heap.size ≤ k) W2 W3 ∧ Adds (fpT w.heap.size (R i s)) (fpT w.heap.size H1) W W3 := by
        intro H1 h
        have hs12 : W.heap.size ≤ W1.heap.size := g2.chg.size
        have hs23 : W2.heap.size ≤ W3.heap.size := h.chg.size
        have toR : ∀ k, (fpL H').wr k → fpT w.heap.size (R i s) k ∨ W.heap.size ≤ k := by
          rintro k ⟨r, hr, hk⟩
          by_cases hlt' : k < W.heap.size
          · exact .inl (.inl (g2.loc r hr k hk hlt'))
          · exact .inr (by omega)
        refine ⟨big2.upd h, by omega, h.chg.mono (fun k _ hk => toR k hk), ?_⟩
        rintro k (⟨r, hr, hk⟩ | ⟨⟨r, hr, hk⟩, hB⟩)
        · have hk3 := r.lt W3 (h.all r hr) k (r.sub k hk)
          by_cases hlt' : k < W.heap.size
          · rcases toR k (h.loc r hr k hk (by omega)) with h1 | h1
            · exact .inl h1
            · omega
          · exact .inr ⟨by omega, hk3⟩
        · have hk3 := r.lt W3 (h.all r hr) k hk
          by_cases hlt' : k < W.heap.size
          · obtain ⟨r2, hr2, hk2⟩ := h.locF r hr k hk (by omega)
            exact .inl (.inr ⟨g2.locF r2 hr2 k hk2 hlt', hB⟩)
          · exact .inr ⟨by omega, hk3⟩
      cases e with
      | normal =>
        obtain ⟨H1, F1, ht, s', hs', rfl⟩ := k3
        obtain ⟨f1, f2, f3, f4⟩ := fin _ (k2.perm ht.perm).left
        exact ⟨_, ⟨s', hs', f1, rfl, f2⟩, f3, f4⟩
      | ret =>
        obtain ⟨H1, F1, ht, hq⟩ := k3
        obtain ⟨f1, f2, f3, f4⟩ := fin _ (k2.perm ht.perm).left
        rw [← hFF] at hq
        exact ⟨_, ⟨.ret, H1, .inl ⟨rfl, rfl⟩, f1, rfl, f2, hq⟩, f3, f4⟩
      | exit id =>
        obtain ⟨H1, F1, ht, hq⟩ := k3
        obtain ⟨f1, f2, f3, f4⟩ := fin _ (k2.perm ht.perm).left
        rw [← hFF] at hq
        exact ⟨_, ⟨.exit id, H1, .inr ⟨id, rfl, rfl⟩, f1, rfl, f2, hq⟩, f3, f4⟩
      | goto t => exact k3.elim
      | panic ch => exact k3.elim
      | outgrown => exact k3.elim
    | exit i => exact g3.elim
    | goto l => exact g3.elim
    | ret => exact g3.elim
    | panic ch => exact g3.elim
    | outgrown => exact g3.elim
  · rintro D T W hD hdef hTD ⟨s, hs, hok, rfl, hsz⟩
    refine ⟨trivial, env, dM D :: ds, _, ⟨ha.1, by rw [ha.2.1]; rfl, ha.2.2⟩, addD _ D W hok hD hdef hTD, ?_⟩
    rw [hFF]
    exact hd s D hs
  · rintro D cd i T W hD hdef hTD hi ⟨e, H1, hcd, hok, rfl, hsz, hq⟩
    have hup : up ⟨P, none, n, w0, S⟩ Q e { a with defers := { target := .collected D, args := #[] } :: a.defers } W := by
      refine ⟨?_, env, dM D :: ds, _, ⟨ha.1, by rw [ha.2.1]; rfl, ha.2.2⟩, addD _ D W hok hD hdef hTD, hq D⟩
      rcases hcd with ⟨_, rfl⟩ | ⟨id, _, rfl⟩ <;> trivial
    rcases hcd with ⟨rfl, rfl⟩ | ⟨id, rfl, rfl⟩
    · exact wpIn_ret hup
    · exact wpIn_exit hup
end

/-- A world at an iterator's beginning: nothing of it has changed yet. -/
def startR (W : World) (T : Nat → Prop) (hT : ∀ k, T k → k < W.heap.size) : Res where
  fp := fun k => k < W.heap.size
  wr := T
  sub := fun k h => hT k h
  ok := fun w => Chg noB W w
  lt := fun w h k hk => Nat.lt_of_lt_of_le hk h.size
  st := fun w w' D h hc hd => h.trans' hc (fun _ _ e => e) (fun k hk hD => (hd k hk hD).elim)
section
variable {c : Cx} {Q : SQ} {env : Env} {ds : List Deferred} {H F : List Res} {dst : Option Tmp} {ty : TypeId} {pos : String} {af : Array Edge} {g : Option (Nat × Bool)}
theorem Yl.loadSt {W : World} {T0 : Nat → Prop} {hT : ∀ k, T0 k → k < W.heap.size} {t : TypeId} {x : Operand} {b o : Nat} {T : TypeId} {cs : List Value} {v : Value} (ho : isOne c.P t = true) (hx : ev env x = some (.pointer (some ⟨b, o, none⟩))) (tk : Take1 H (startR W T0 hT) F) (hb : W.heap[b]? = some (.cells cs.toArray T (0, 0))) (hv : cs[o]? = some v) : Yl c env ds H ⟨dst, .load t x, ty, pos, af, g⟩ v := fun a w ha hw => by
  have h : Chg noB W w := hw.get tk
  have h2 := h.heap hb (fun e => e)
  have : w.cell? ⟨b, o, none⟩ = some v := by rw [cell_of_row w b o _ T (0, 0) h2]; simpa using hv
  simp [execOp, ha.ev hx, run_loadAt_one ho this]
theorem OK.begin {w0 : World} {S : Pm} {A : List Res} {w W : World} {gs : Guest} {T0 : Nat → Prop} {hT : ∀ k, T0 k → k < W.heap.size} (h : OK w0 S H w) (tk : Take1 H (startR W T0 hT) F) (hW : gs.W = W) (hJ : gs.J 0 T0 W)
    (hA : OK W (fpL A) A W) (hn : ∀ r ∈ A, ∀ k, ¬ r.wr k) (hd : ∀ k, T0 k → ¬ (fpL A).rd k) : OK w0 S (gstR gs 0 T0 :: (A ++ F)) w := by
  subst hW
  have hc : Chg noB gs.W w := h.get tk
  refine OK.upd (A := [startR gs.W T0 hT]) (B := gstR gs 0 T0 :: A) (F := F) (h.perm tk.perm) ⟨Chg.refl _ _, ?_, ?_, ?_, List.pairwise_cons.2 ⟨fun s hs => ⟨fun k a b => hd k a ⟨s, hs, b⟩, fun k a b => hn s hs k b⟩, hA.dis⟩⟩
  · intro r hr
    rcases List.mem_cons.1 hr with rfl | hr
    · exact ⟨gs.hJ _ _ _ _ hJ (hc.mono (fun k _ hk => hk.elim)), fun k hk => Nat.lt_of_lt_of_le (hT k hk) hc.size, hc.size⟩
    · exact r.st gs.W w _ (hA.all r hr) hc (fun k _ hk => hk.elim)
  · intro r hr k hk _
    rcases List.mem_cons.1 hr with rfl | hr
    · exact ⟨_, List.mem_singleton.2 rfl, hk⟩
    · exact (hn r hr k hk).elim
  · intro r hr k hk _
    rcases List.mem_cons.1 hr with rfl | hr
    · rcases hk with hk | hk
      · exact ⟨_, List.mem_singleton.2 rfl, hT k hk⟩
      · exact ⟨_, List.mem_singleton.2 rfl, hk⟩
    · exact ⟨_, List.mem_singleton.2 rfl, r.lt gs.W (hA.all r hr) k hk⟩
end
theorem iter_ofMN {P : Program} {gf : FuncId} {fn : Func} {k : Code} {n : Nat} {lb : List Value} {xs : List (Array Value)} {A : List Res} {w0 : World} (hf : P.funcs[gf]? = some fn) (hb : fn.body = some k) (hn : fn.ntmps = n) (hl : Nat.ble (lb.length + 1) n = true)
    (hA : OK w0 (fpL A) A w0)
    (h : ∀ l W g gx T0 hT, Yields P g gx xs l → g.W = W → g.J 0 T0 W → Chg noB w0 W → OK W (fpL A) A W → (∀ k, T0 k → ¬ (fpL A).rd k) → WC ⟨P, none, n, W, fpL [startR W T0 hT]⟩ k (retM ⟨P, none, n, W, fpL [startR W T0 hT]⟩ fn (fun e w' => (∃ v, e = .returned v) ∧ ((∃ T, g.J xs.length T w') ∨ ∃ i T, i < xs.length ∧ gx.J i T w'))) (args0 0 (.func (.yield l) #[] #[] :: lb)) [] [startR W T0 hT]) :
    IterN P gf lb.toArray (fpL A).rd xs w0 := by
  intro l T0 J Jx W hW hown hT0 hJ hJx hY h00
  have hy : Yields P ⟨J, W, hJ⟩ ⟨Jx, W, hJx⟩ xs l := ⟨hY, rfl⟩
  have hAW : OK W (fpL A) A W := ⟨Chg.refl _ _, fun r hr => r.st w0 W _ (hA.all r hr) hW (fun k _ hk => hk.elim), fun r hr k hk _ => ⟨r, hr, hk⟩, fun r hr k hk _ => ⟨r, hr, hk⟩, hA.dis⟩
  have hk := h l W ⟨J, W, hJ⟩ ⟨Jx, W, hJx⟩ T0 (fun k hk => (hT0 k hk).1) hy rfl h00 hW hAW (fun k hk => (hT0 k hk).2)
  have hst : OK W (fpL [startR W T0 (fun k hk => (hT0 k hk).1)]) [startR W T0 (fun k hk => (hT0 k hk).1)] W :=
    OK.one (Chg.refl _ _) (Chg.refl _ _) (fun k hk _ => ⟨_, List.mem_singleton.2 rfl, hk⟩) (fun k hk _ => ⟨_, List.mem_singleton.2 rfl, hk⟩)
  have := enterSM (P := P) (f := gf) (w := W) (vs := .func (.yield l) #[] #[] :: lb) hf hb hn (by simpa using hl) hst hk
  have e : (#[Value.func (.yield l) #[] #[]] ++ lb.toArray) = (.func (.yield l) #[] #[] :: lb).toArray := by simp
  rw [e]
  exact callsIn_fw this
section
variable {c : Cx} {Q : SQ} {env : Env} {ds : List Deferred} {H F A : List Res} {ops : Array Oper} {rest : List Oper} {d : Nat} {ty : TypeId} {pos : String} {af : Array Edge}
/-- A call that only reads, and hands back new blocks alone. -/
theorem lift_roN {α : Type} {Φ : α → Prop} {v : α → Value} {B : α → List Res} {fid : FuncId} {vs : List Value} (tk : TakeL H A F) (hB : ∀ x, ∀ r ∈ B x, ∀ k, r.fp k → r.wr k)
    (h : ∀ w, OK c.w0 c.S (A.map roR ++ F) w → Fn c.P fid vs (A.map roR) w Φ v B) :
    ∀ w, OK c.w0 c.S H w → Calls c.P fid vs.toArray w fun e w' => ∃ x, Φ x ∧ e = .returned (v x) ∧ OK c.w0 c.S (B x ++ H) w' := fun w hw => by
  have hw' := hw.perm tk.perm
  have hfz : OK c.w0 c.S (A.map roR ++ F) w := by
    refine ⟨hw'.chg, ?_, ?_, ?_, ?_⟩
    · intro r hr
      rcases List.mem_append.1 hr with hr | hr
      · obtain ⟨s, hs, rfl⟩ := List.mem_map.1 hr
        exact hw'.all s (List.mem_append_left _ hs)
      · exact hw'.all r (List.mem_append_right _ hr)
    · intro r hr k hk
      rcases List.mem_append.1 hr with hr | hr
      · obtain ⟨s, hs, rfl⟩ := List.mem_map.1 hr
        exact hk.elim
      · exact hw'.loc r (List.mem_append_right _ hr) k hk
    · intro r hr k hk
      rcases List.mem_append.1 hr with hr | hr
      · obtain ⟨s, hs, rfl⟩ := List.mem_map.1 hr
        exact hw'.locF s (List.mem_append_left _ hs) k hk
      · exact hw'.locF r (List.mem_append_right _ hr) k hk
    · have hd := hw'.dis
      rw [List.pairwise_append] at hd ⊢
      refine ⟨?_, hd.2.1, ?_⟩
      · rw [List.pairwise_map]
        exact hd.1.imp fun _ => ⟨fun k h => h.elim, fun k _ h => h.elim⟩
      · intro r hr s hs
        obtain ⟨r0, hr0, rfl⟩ := List.mem_map.1 hr
        exact ⟨fun k h => h.elim, fun k h1 h2 => (hd.2.2 r0 hr0 s hs).2 k h1 h2⟩
  have nowr : ∀ k, ¬ (fpL (A.map roR)).wr k := by
    rintro k ⟨r, hr, hk⟩
    obtain ⟨s, _, rfl⟩ := List.mem_map.1 hr
    exact hk.elim
  refine (h w hfz).mono ?_
  rintro e w' ⟨x, h1, h2, h3⟩
  refine ⟨x, h1, h2, ?_⟩
  have hH := hw.ext (h3.chg.mono (fun k _ hk => nowr k hk))
  have new : ∀ r ∈ B x, ∀ k, r.wr k → w.heap.size ≤ k := fun r hr k hk => Nat.le_of_not_lt fun hlt => nowr k (h3.loc r hr k hk hlt)
  have hsz := hw.chg.size
  refine ⟨hH.chg, ?_, ?_, ?_, List.pairwise_append.2 ⟨h3.dis, hH.dis, fun r hr s hs => ⟨fun k hk hsk => ?_, fun k hk hsk => ?_⟩⟩⟩
  · intro r hr
    rcases List.mem_append.1 hr with hr | hr
    · exact h3.all r hr
    · exact hH.all r hr
  · intro r hr k hk hlt
    rcases List.mem_append.1 hr with hr | hr
    · have := new r hr k hk; omega
    · exact hH.loc r hr k hk hlt
  · intro r hr k hk hlt
    rcases List.mem_append.1 hr with hr | hr
    · have := new r hr k (hB x r hr k hk); omega
    · exact hH.locF r hr k hk hlt
  · have := new r hr k hk
    have := s.lt w (hw.all s hs) k hsk
    omega
  · have := new r hr k (hB x r hr k hk)
    have := s.lt w (hw.all s hs) k (s.sub k hsk)
    omega
theorem WL.callRoN {f : Operand} {xs : List Operand} {ts : Array TypeId} {fid : FuncId} {cap : List Value} {vs : List Value} {α : Type} {Φ : α → Prop} {v : α → Value} {B : α → List Res}
    (hf : ev env f = some (.func (.func fid) #[] cap.toArray)) (hx : evs env xs = some vs) (he : ∀ args w, (callFunc fid args).run c.P w = .ok (.enter fid args) w)
    (tk : TakeL H A F) (hB : ∀ x, ∀ r ∈ B x, ∀ k, r.fp k → r.wr k) (h : ∀ w, OK c.w0 c.S (A.map roR ++ F) w → Fn c.P fid (vs ++ cap) (A.map roR) w Φ v B) (hn : Nat.blt d c.n = true)
    (k : ∀ x, Φ x → WL c ops Q rest ((d, v x) :: env) ds (B x ++ H)) :
    WL c ops Q (⟨some d, .call { callee := .value f, args := xs.toArray, argTypes := ts }, ty, pos, af, none⟩ :: rest) env ds H :=
  WL.call hf hx he (lift_roN tk hB h) hn k
end
end Go.Proofs.YtfobhdmhjjafcaaGreatDoorRR
