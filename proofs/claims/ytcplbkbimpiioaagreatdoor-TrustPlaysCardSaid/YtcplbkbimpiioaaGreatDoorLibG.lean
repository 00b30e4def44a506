/- An iterator that writes what it owns, while it goes: general lemmas of this claim's own, about no program in particular. -/
import Derived.Test.YtcplbkbimpiioaaGreatDoorLibJ
namespace Go.Proofs.YtcplbkbimpiioaaGreatDoor
open Go Go.RowKit

/-- What an iterator promises that turns the resources A into others: E when all were handed over, Ex i when the caller has said no more at the i-th. -/
def IterW (P : Program) (gf : Nat) (lb : Array Value) (A : List Res) (xs : List (Array Value)) (E : List Res) (Ex : Nat → List Res) : Prop :=
  ∀ (l : Nat) (T0 : Nat → Prop) (J Jx : Nat → (Nat → Prop) → World → Prop) (W : World),
    OK W (fpL A) A W →
    (∀ k, T0 k → k < W.heap.size ∧ ¬ (fpL A).rd k) →
    (∀ i T X Y, J i T X → Chg (fun k => (W.heap.size ≤ k ∨ (fpL A).wr k) ∧ ¬ T k) X Y → J i T Y) →
    (∀ i T X Y, Jx i T X → Chg (fun k => (W.heap.size ≤ k ∨ (fpL A).wr k) ∧ ¬ T k) X Y → Jx i T Y) →
    (∀ i x T W1, xs[i]? = some x → J i T W1 → W.heap.size ≤ W1.heap.size → (∀ k, T k → k < W1.heap.size) → YieldAt (FW none) 0 P l x W1 fun e W' =>
      (e = .returned (.bool true) ∧ ∃ T', J (i + 1) T' W' ∧ Chg T W1 W' ∧ Adds T T' W1 W') ∨ (e = .returned (.bool false) ∧ ∃ T', Jx i T' W' ∧ Chg T W1 W' ∧ Adds T T' W1 W')) →
    J 0 T0 W →
    CallsIn (FW none) 0 P gf (#[.func (.yield l) #[] #[]] ++ lb) W fun e W' => (∃ v, e = .returned v) ∧ ((∃ T, J xs.length T W' ∧ ∀ r ∈ E, r.ok W') ∨ ∃ i T, i < xs.length ∧ Jx i T W' ∧ ∀ r ∈ Ex i, r.ok W')

/-- A resource of which only the place is known. -/
def shR (r : Res) : Res := ⟨r.fp, r.wr, r.sub, fun w => ∀ k, r.fp k → k < w.heap.size, fun _ h => h, fun _ _ _ h hc _ k hk => Nat.lt_of_lt_of_le (h k hk) hc.size⟩
theorem OK.sh {w0 : World} {S : Pm} {A F : List Res} {w : World} (h : OK w0 S (A ++ F) w) : OK w0 S (A.map shR ++ F) w := by
  have hm : ∀ r ∈ A.map shR ++ F, ∃ s ∈ A ++ F, s.fp = r.fp ∧ s.wr = r.wr ∧ (s.ok w → r.ok w) := by
    intro r hr
    rcases List.mem_append.1 hr with hr | hr
    · obtain ⟨s, hs, rfl⟩ := List.mem_map.1 hr
      exact ⟨s, List.mem_append_left _ hs, rfl, rfl, fun h => s.lt w h⟩
    · exact ⟨r, List.mem_append_right _ hr, rfl, rfl, id⟩
  refine ⟨h.chg, ?_, ?_, ?_, ?_⟩
  · intro r hr; obtain ⟨s, hs, _, _, e⟩ := hm r hr; exact e (h.all s hs)
  · intro r hr k hk; obtain ⟨s, hs, _, e, _⟩ := hm r hr; exact h.loc s hs k (by rw [e]; exact hk)
  · intro r hr k hk; obtain ⟨s, hs, e, _, _⟩ := hm r hr; exact h.locF s hs k (by rw [e]; exact hk)
  · have hd := List.pairwise_append.1 h.dis
    refine List.pairwise_append.2 ⟨List.pairwise_map.2 (hd.1.imp fun h => h), hd.2.1, fun r hr s hs => ?_⟩
    obtain ⟨r0, hr0, rfl⟩ := List.mem_map.1 hr
    exact hd.2.2 r0 hr0 s hs
theorem OK.unsh {w0 : World} {S : Pm} {X E F : List Res} {w : World} (h : OK w0 S (X ++ (E.map shR ++ F)) w) (hE : ∀ r ∈ E, r.ok w) : OK w0 S (X ++ (E ++ F)) w := by
  have hm : ∀ r ∈ X ++ (E ++ F), r.ok w ∧ ∃ s ∈ X ++ (E.map shR ++ F), s.fp = r.fp ∧ s.wr = r.wr := by
    intro r hr
    rcases List.mem_append.1 hr with hr | hr
    · exact ⟨h.all r (List.mem_append_left _ hr), r, List.mem_append_left _ hr, rfl, rfl⟩
    · rcases List.mem_append.1 hr with hr | hr
      · exact ⟨hE r hr, shR r, List.mem_append_right _ (List.mem_append_left _ (List.mem_map.2 ⟨r, hr, rfl⟩)), rfl, rfl⟩
      · exact ⟨h.all r (List.mem_append_right _ (List.mem_append_right _ hr)), r, List.mem_append_right _ (List.mem_append_right _ hr), rfl, rfl⟩
  refine ⟨h.chg, fun r hr => (hm r hr).1, ?_, ?_, ?_⟩
  · intro r hr k hk; obtain ⟨_, s, hs, _, e⟩ := hm r hr; exact h.loc s hs k (by rw [e]; exact hk)
  · intro r hr k hk; obtain ⟨_, s, hs, e, _⟩ := hm r hr; exact h.locF s hs k (by rw [e]; exact hk)
  · have hd := List.pairwise_append.1 h.dis
    have hd2 := List.pairwise_append.1 hd.2.1
    refine List.pairwise_append.2 ⟨hd.1, List.pairwise_append.2 ⟨(List.pairwise_map.1 hd2.1).imp fun h => h, hd2.2.1, fun r hr s hs => hd2.2.2 (shR r) (List.mem_map.2 ⟨r, hr, rfl⟩) s hs⟩, fun r hr s hs => ?_⟩
    rcases List.mem_append.1 hs with hs | hs
    · exact hd.2.2 r hr (shR s) (List.mem_append_left _ (List.mem_map.2 ⟨s, hs, rfl⟩))
    · exact hd.2.2 r hr s (List.mem_append_right _ hs)

section
variable {P : Program}
/-- The statement 'for .. := range g { .. }' outside of every round, over an iterator that has its promise. -/
theorem wpIn_rangeW {g : Operand} {ps : Array Tmp} {assign body : Code} {Q : Exit → Act → World → Prop} {a : Act} {w : World}
    {gf : Nat} {lb : Array Value} {A E : List Res} {Ex : Nat → List Res} {xs : List (Array Value)} (hseq : IterW P gf lb A xs E Ex) (hA : OK w (fpL A) A w) (hE : ∀ r ∈ E, ∀ k, r.fp k → k < w.heap.size) (hEx : ∀ i, ∀ r ∈ Ex i, ∀ k, r.fp k → k < w.heap.size)
    (T0 : Nat → Prop) (J : Nat → (Nat → Prop) → World → Prop) (Jx : Code → Nat → (Nat → Prop) → World → Prop)
    (hg : a.eval g = .func (.func gf) #[] lb) (eg : ∀ args w, (callFunc gf args).run P w = .ok (.enter gf args) w)
    (hps : ∀ x ∈ xs, x.size = ps.size)
    (hT0 : ∀ k, T0 k → k < w.heap.size ∧ ¬ (fpL A).rd k)
    (hJ : ∀ i T X Y, J i T X → Chg (fun k => (w.heap.size ≤ k ∨ (fpL A).wr k) ∧ ¬ T k) X Y → J i T Y) (hJx : ∀ c i T X Y, Jx c i T X → Chg (fun k => (w.heap.size ≤ k ∨ (fpL A).wr k) ∧ ¬ T k) X Y → Jx c i T Y)
    (h0 : J 0 T0 w)
    (hbody : RndOk P ps assign body a w.heap.size xs J Jx)
    (hdone : ∀ D T W, w.heap.size ≤ D → W.heap[D]? = some (.deferred (some [])) → ¬ T D → J xs.length T W → (∀ r ∈ E, r.ok W) → Q .normal { a with defers := { target := .collected D, args := #[] } :: a.defers } W)
    (hstop : ∀ D c i T W, w.heap.size ≤ D → W.heap[D]? = some (.deferred (some [])) → ¬ T D → i < xs.length → Jx c i T W → (∀ r ∈ Ex i, r.ok W) → c.wpIn (FW none) 0 P Q { a with defers := { target := .collected D, args := #[] } :: a.defers } W) :
    (Code.rangeFunc g ps assign body).wpIn (FW none) 0 P Q a w := by
  have ho0 : ∀ k, (fpL A).rd k → k < w.heap.size := fun k ⟨r, hr, hk⟩ => r.lt w (hA.all r hr) k hk
  have hw0 : ∀ k, (fpL A).wr k → k < w.heap.size := fun k ⟨r, hr, hk⟩ => r.lt w (hA.all r hr) k (r.sub k hk)
  refine wpIn_rangeFunc ?_
  intro fn _
  obtain ⟨rec, hrec⟩ : ∃ rec : LoopState → Option Code → Loop, rec = fun st pe => { state := st, pending := pe, fn, tmps := a.tmps, params := ps, assign, body, defers := w.heap.size } := ⟨_, rfl⟩
  obtain ⟨W1, hW1⟩ : ∃ W1, (w.alloc (.deferred (some []))).alloc (.loop (rec .ready none)) = W1 := ⟨_, rfl⟩
  have hL1 : W1.heap[w.heap.size + 1]? = some (.loop (rec .ready none)) := by
    rw [← hW1]; have := World.alloc_heap_new (w.alloc (.deferred (some []))) (.loop (rec .ready none)); rwa [World.size_alloc] at this
  have hK1 : W1.heap[w.heap.size]? = some (.deferred (some [])) := by
    rw [← hW1]; exact (Below.heap_alloc _ _ _ (by simp)).trans (World.alloc_heap_new w _)
  have hsz : W1.heap.size = w.heap.size + 2 := by rw [← hW1]; simp
  have hc1 : ∀ T, Chg T w W1 := fun T => by rw [← hW1]; exact (Chg.alloc _ _ _).trans (Chg.alloc _ _ _)
  obtain ⟨L, hL⟩ : ∃ L, L = w.heap.size + 1 := ⟨_, rfl⟩
  refine ⟨L, [{ target := .collected w.heap.size, args := #[] }], W1, { target := .fn (.func gf) lb, args := #[.func (.yield L) #[] #[]] }, W1, gf,
    #[.func (.yield L) #[] #[]] ++ lb, W1, ?_, ?_, ?_, ?_, fun h => by simp at h, ?_⟩
  · rw [← hW1, hrec, hL]; exact run_enterLoop_outer _ _ _ _ _
  · simp only [resolve, hg]
    simp [go_sem]
  · intro f' hf'; trivial
  · simp [invoke, go_sem, eg]
  · rw [← hL] at hL1
    refine (hseq L (fun k => T0 k ∨ k = L)
      (fun i T W => ∃ T', (∀ k, T k ↔ T' k ∨ k = L) ∧ ¬ T' L ∧ ¬ T' w.heap.size ∧ (∀ k, T' k → k < W.heap.size) ∧ J i T' W ∧ W.heap[L]? = some (.loop (rec .ready none)) ∧ W.heap[w.heap.size]? = some (.deferred (some [])))
      (fun i T W => ∃ T' c, (∀ k, T k ↔ T' k ∨ k = L) ∧ ¬ T' L ∧ ¬ T' w.heap.size ∧ Jx c i T' W ∧ W.heap[L]? = some (.loop (rec .done (some c))) ∧ W.heap[w.heap.size]? = some (.deferred (some [])))
      W1 ⟨Chg.refl _ _, fun r hr => r.st w W1 noB (hA.all r hr) (hc1 _) (fun k _ hk => hk.elim), fun r hr k hk _ => ⟨r, hr, hk⟩, fun r hr k hk _ => ⟨r, hr, hk⟩, hA.dis⟩ ?_ ?_ ?_ ?_
      ⟨T0, fun _ => Iff.rfl, fun h => by have := (hT0 _ h).1; omega, fun h => by have := (hT0 _ h).1; omega, fun k hk => by have := (hT0 k hk).1; omega, hJ _ _ _ _ h0 (hc1 _), hL1, hK1⟩).mono ?_
    · rintro k (hk | rfl)
      · exact ⟨by have := (hT0 k hk).1; omega, (hT0 k hk).2⟩
      · exact ⟨by omega, fun h => by have := ho0 _ h; omega⟩
    · rintro i T X Y ⟨T', ht, hn1, hn2, hTs, h1, h2, h3⟩ hc
      have hn : ∀ k, w.heap.size ≤ k → k < w.heap.size + 2 → ¬ ((W1.heap.size ≤ k ∨ (fpL A).wr k) ∧ ¬ T k) := fun k hk0 hk h => by
        rcases h.1 with h | h
        · omega
        · have := hw0 k h; omega
      exact ⟨T', ht, hn1, hn2, fun k hk => Nat.lt_of_lt_of_le (hTs k hk) hc.size, hJ _ _ _ _ h1 (hc.mono (fun k _ hk => ⟨hk.1.imp (fun h => by omega) id, fun h => hk.2 ((ht k).2 (.inl h))⟩)), hc.heap h2 (hn _ (by omega) (by omega)), hc.heap h3 (hn _ (by omega) (by omega))⟩
    · rintro i T X Y ⟨T', c, ht, hn1, hn2, h1, h2, h3⟩ hc
      have hn : ∀ k, w.heap.size ≤ k → k < w.heap.size + 2 → ¬ ((W1.heap.size ≤ k ∨ (fpL A).wr k) ∧ ¬ T k) := fun k hk0 hk h => by
        rcases h.1 with h | h
        · omega
        · have := hw0 k h; omega
      exact ⟨T', c, ht, hn1, hn2, hJx _ _ _ _ _ h1 (hc.mono (fun k _ hk => ⟨hk.1.imp (fun h => by omega) id, fun h => hk.2 ((ht k).2 (.inl h))⟩)), hc.heap h2 (hn _ (by omega) (by omega)), hc.heap h3 (hn _ (by omega) (by omega))⟩
    · rintro i x T W hx ⟨T', ht, hn1, hn2, hTs, h1, h2, h3⟩ hle hTW
      have hlt := lt_of_heap h2
      have hput : ∀ (U : Nat → Prop) (X : World) (o : Obj), ¬ U L → Chg (fun k => (w.heap.size ≤ k ∨ (fpL A).wr k) ∧ ¬ U k) X (X.putObj L o) := fun U X o hU => Chg.putObj _ _ _ (fun _ => ⟨.inl (by omega), hU⟩)
      refine (round_core (ro := none) hrec hn1 (hps x (List.mem_of_getElem? hx)) (J := J (i + 1)) (Jx := fun c => Jx c i) h2 ?_ ?_ ?_).mono ?_
      · intro U A o h hU; exact hJ _ _ _ _ h (hput U A o hU)
      · intro c U A o h hU; exact hJx _ _ _ _ _ h (hput U A o hU)
      · intro hr; exact hbody L i x T' W hx h1 (by omega) hn1 hr hTs
      · have keyD : ∀ (U : Nat → Prop) (W' : World), Adds T' U W W' → ¬ U w.heap.size := fun U W' hA h => by
          rcases hA _ h with h | h
          · exact hn2 h
          · omega
        have keyA : ∀ (U : Nat → Prop) (W' : World), Adds T' U W W' → Adds T (fun k => U k ∨ k = L) W W' := fun U W' hA k hk => by
          rcases hk with hk | rfl
          · rcases hA k hk with h | h
            · exact .inl ((ht k).2 (.inl h))
            · exact .inr h
          · exact .inl ((ht k).2 (.inr rfl))
        have keyC : ∀ (W' : World), Chg (fun k => T' k ∨ k = L) W W' → Chg T W W' := fun W' h => h.mono (fun k _ hk => (ht k).2 hk)
        have keyS : ∀ (U : Nat → Prop) (W' : World), Adds T' U W W' → W.heap.size ≤ W'.heap.size → ∀ k, U k → k < W'.heap.size := fun U W' hA hs k hk => by
          rcases hA k hk with h | h
          · exact Nat.lt_of_lt_of_le (hTs k h) hs
          · exact h.2
        have hD : ¬ (T' w.heap.size ∨ w.heap.size = L) := fun h => by
          rcases h with h | h
          · exact hn2 h
          · omega
        rintro e W' (⟨rfl, U, h4, hU, h5, h6, hA⟩ | ⟨rfl, c, U, h4, hU, h5, h6, hA⟩)
        · exact .inl ⟨rfl, fun k => U k ∨ k = L, ⟨U, fun _ => Iff.rfl, hU, keyD U W' hA, keyS U W' hA h6.size, h4, h5, h6.heap h3 hD⟩, keyC _ h6, keyA _ _ hA⟩
        · exact .inr ⟨rfl, fun k => U k ∨ k = L, ⟨U, c, fun _ => Iff.rfl, hU, keyD U W' hA, h4, h5, h6.heap h3 hD⟩, keyC _ h6, keyA _ _ hA⟩
    · have hput : ∀ (U : Nat → Prop) (X : World) (o : Obj), ¬ U L → Chg (fun k => (w.heap.size ≤ k ∨ (fpL A).wr k) ∧ ¬ U k) X (X.putObj L o) := fun U X o hU => Chg.putObj _ _ _ (fun _ => ⟨.inl (by omega), hU⟩)
      rintro e W2 ⟨⟨v, rfl⟩, (⟨T, ⟨T', ht, hn1, hn2, hTs, h1, h2, h3⟩, hok⟩ | ⟨i, T, hi, ⟨T', c, ht, hn1, hn2, h1, h2, h3⟩, hok⟩)⟩
      · refine ⟨none, _, by have := run_endLoop (P := P) h2 (by rw [hrec]; simp); rw [hrec] at this; exact this, ?_⟩
        exact hdone _ T' _ (Nat.le_refl _) ((World.putObj_heap_other (by omega)).trans h3) hn2 (hJ _ _ _ _ h1 (hput _ _ _ hn1)) (fun r hr => r.st W2 _ (oneB L) (hok r hr) (Chg.putObj _ _ _ (fun _ => rfl)) (fun k hk e => by cases e; have := hE r hr _ hk; omega))
      · refine ⟨some c, _, by have := run_endLoop (P := P) h2 (by rw [hrec]; simp); rw [hrec] at this; exact this, ?_⟩
        exact hstop _ c i T' _ (Nat.le_refl _) ((World.putObj_heap_other (by omega)).trans h3) hn2 hi (hJx _ _ _ _ _ h1 (hput _ _ _ hn1)) (fun r hr => r.st W2 _ (oneB L) (hok r hr) (Chg.putObj _ _ _ (fun _ => rfl)) (fun k hk e => by cases e; have := hEx i r hr _ hk; omega))

end

section
variable {P : Program} {n : Nat} {w0 : World} {S : Pm} {Q : SQ} {env : Env} {ds : List Deferred} {H H2 F : List Res}

theorem WC.rangeW {g : Operand} {ps : Array Tmp} {assign body : Code} {α : Type} {gf : Nat} {lb : List Value} {A E : List Res} {Ex : Nat → List Res} {xs : List (Array Value)}
    (R : Nat → α → List Res) (okp : Nat → α → Prop) (s0 : α)
    (hg : ev env g = some (.func (.func gf) #[] lb.toArray)) (eg : ∀ args w, (callFunc gf args).run P w = .ok (.enter gf args) w) (hps : ∀ x ∈ xs, x.size = ps.size) (hpn : (ps.toList.all fun p => Nat.blt p n) = true)
    (tk : TakeL H A H2) (hi : IterW P gf lb.toArray A xs E Ex) (hE : E.map shR = A.map shR) (hEx : ∀ i, (Ex i).map shR = A.map shR) (h0 : okp 0 s0) (tk2 : TakeL H2 (R 0 s0) F)
    (hb : ∀ l i x s, xs[i]? = some x → okp i s → ∀ W, WC ⟨P, some l, n, W, fpL (R i s)⟩ assign (thenS (fun env' ds' H' => ∀ W2, WC ⟨P, some l, n, W2, fpL H'⟩ body (rndS Q env ds (Ex i ++ F) (fun H1 => ∃ s', okp (i + 1) s' ∧ H1 = R (i + 1) s')) env' ds' H') (fun _ _ _ _ => False)) (psEnv env ps.toList x.toList) [] (R i s))
    (hd : ∀ s D, okp xs.length s → Q .normal env (dM D :: ds) (objR D (.deferred (some [])) :: (R xs.length s ++ (E ++ F)))) :
    WC ⟨P, none, n, w0, S⟩ (.rangeFunc g ps assign body) Q env ds H := by
  refine ⟨fun a w ha hw => ?_⟩
  obtain ⟨FF, hFF⟩ : ∃ FF, FF = A.map shR ++ F := ⟨_, rfl⟩
  have hw1 : OK w0 S (A ++ H2) w := hw.perm tk.perm
  have hw2 : OK w0 S (R 0 s0 ++ FF) w := by
    rw [hFF]
    exact hw1.sh.perm ((tk2.perm.append_left (A.map shR)).trans (by rw [← List.append_assoc, ← List.append_assoc]; exact List.perm_append_comm.append_right F))
  have hlt : ∀ r ∈ FF, ∀ k, r.fp k → k < w.heap.size := fun r hr k hk => r.lt w (hw2.all r (List.mem_append_right _ hr)) k hk
  have how : ∀ k, (fpL A).wr k → ∃ s ∈ FF, s.wr k := by
    rintro k ⟨r, hr, hk⟩
    exact ⟨shR r, by rw [hFF]; exact List.mem_append_left _ (List.mem_map.2 ⟨r, hr, rfl⟩), hk⟩
  have hsz0 := hw.chg.size
  have stab : ∀ (H1 : List Res) (X Y : World), OK w0 S (H1 ++ FF) X → w.heap.size ≤ X.heap.size → Chg (fun k => (w.heap.size ≤ k ∨ (fpL A).wr k) ∧ ¬ fpT w.heap.size H1 k) X Y → OK w0 S (H1 ++ FF) Y := by
    intro H1 X Y h hwX hc
    have hd := List.pairwise_append.1 h.dis
    refine ⟨h.chg.trans' hc (fun _ _ e => e) (fun k hk hD => ?_), fun r hr => ?_, h.loc, h.locF, h.dis⟩
    · rcases hD.1 with h1 | ⟨r, hr, h1⟩
      · have : w0.heap.size ≤ w.heap.size := hsz0
        omega
      · exact hw1.loc r (List.mem_append_left _ hr) k h1 hk
    · rcases List.mem_append.1 hr with hr1 | hr1
      · refine r.st X Y _ (h.all r hr) hc (fun k hk hD => ?_)
        rcases hD.1 with h1 | h1
        · exact hD.2 (.inr ⟨⟨r, hr1, hk⟩, h1⟩)
        · obtain ⟨s, hs, hsk⟩ := how k h1
          exact (hd.2.2 r hr1 s hs).2 k hk hsk
      · have hr2 := hr1
        rw [hFF] at hr2
        rcases List.mem_append.1 hr2 with hr3 | hr3
        · obtain ⟨a', _, rfl⟩ := List.mem_map.1 hr3
          exact fun k hk => Nat.lt_of_lt_of_le (h.all _ hr k hk) hc.size
        · refine r.st X Y _ (h.all r hr) hc (fun k hk hD => ?_)
          rcases hD.1 with h1 | ⟨s, hs, h1⟩
          · have := hlt r hr1 k hk
            omega
          · have hd2 := hd.2.1
            rw [hFF] at hd2
            exact ((List.pairwise_append.1 hd2).2.2 (shR s) (List.mem_map.2 ⟨s, hs, rfl⟩) r hr3).1 k h1 hk
  have addD : ∀ (H1 : List Res) (D : Nat) (W : World), OK w0 S (H1 ++ FF) W → w.heap.size ≤ D → W.heap[D]? = some (.deferred (some [])) → ¬ fpT w.heap.size H1 D → OK w0 S (objR D (.deferred (some [])) :: (H1 ++ FF)) W := by
    intro H1 D W h hD hdef hT
    refine h.addR hdef (fun k hk => by cases hk; have : w0.heap.size ≤ w.heap.size := hsz0; omega) (fun s hs k hk hsk => ?_)
    cases hk
    rcases List.mem_append.1 hs with hs | hs
    · exact hT (.inr ⟨⟨s, hs, hsk⟩, hD⟩)
    · have := hlt s hs D hsk
      omega
  refine wpIn_rangeW (P := P) (xs := xs) hi hw1.left.here (fun r hr k hk => ?_) (fun i r hr k hk => ?_) (fpT w.heap.size (R 0 s0))
    (fun i T W => ∃ s, okp i s ∧ OK w0 S (R i s ++ FF) W ∧ T = fpT w.heap.size (R i s) ∧ w.heap.size ≤ W.heap.size)
    (fun cd i T W => ∃ e H1, ((cd = .ret ∧ e = .ret) ∨ ∃ id, cd = .exit id ∧ e = .exit id) ∧ OK w0 S (H1 ++ FF) W ∧ T = fpT w.heap.size H1 ∧ w.heap.size ≤ W.heap.size ∧ ∀ D, Q e env (dM D :: ds) (objR D (.deferred (some [])) :: (H1 ++ (Ex i ++ F))))
    (ha.ev hg) eg hps ?_ ?_ ?_ ⟨s0, h0, hw2, rfl, Nat.le_refl _⟩ ?_ ?_ ?_
  · obtain ⟨s, hs, e⟩ := List.mem_map.1 (show shR r ∈ A.map shR by rw [← hE]; exact List.mem_map.2 ⟨r, hr, rfl⟩)
    exact s.lt w (hw1.all s (List.mem_append_left _ hs)) k (by have : (shR s).fp k := by rw [e]; exact hk
                                                               exact this)
  · obtain ⟨s, hs, e⟩ := List.mem_map.1 (show shR r ∈ A.map shR by rw [← hEx i]; exact List.mem_map.2 ⟨r, hr, rfl⟩)
    exact s.lt w (hw1.all s (List.mem_append_left _ hs)) k (by have : (shR s).fp k := by rw [e]; exact hk
                                                               exact this)
  · intro k hk
    rcases hk with ⟨r, hr, hk⟩ | ⟨⟨r, hr, hk⟩, hB⟩
    · refine ⟨r.lt w (hw2.all r (List.mem_append_left _ hr)) k (r.sub k hk), fun ho => ?_⟩
      obtain ⟨s, hs, hsk⟩ := ho
      exact ((List.pairwise_append.1 hw2.dis).2.2 r hr (shR s) (by rw [hFF]; exact List.mem_append_left _ (List.mem_map.2 ⟨s, hs, rfl⟩))).1 k hk hsk
    · have := r.lt w (hw2.all r (List.mem_append_left _ hr)) k hk
      omega
  · rintro i T X Y ⟨s, h1, h2, rfl, h3⟩ hc
    exact ⟨s, h1, stab _ _ _ h2 h3 hc, rfl, Nat.le_trans h3 hc.size⟩
  · rintro cd i T X Y ⟨e, H1, h1, h2, rfl, h3, h4⟩ hc
    exact ⟨e, H1, h1, stab _ _ _ h2 h3 hc, rfl, Nat.le_trans h3 hc.size, h4⟩
  · rintro l i x T W hx ⟨s, hs, hok, rfl, hsz⟩ hBl hTl hr hTlt
    obtain ⟨rec, hrec⟩ := hr
    have hlW := lt_of_heap hrec
    have hps' := Has.ps (n := n) ps.toList x.toList env { a with defers := [] } hpn ⟨ha.1, rfl, ha.2.2⟩
    have e0 : (ps.zip x).foldl (fun t (p, v) => t.setIfInBounds p v) a.tmps = (ps.toList.zip x.toList).foldl (fun t (p, v) => t.setIfInBounds p v) a.tmps := by
      rw [← Array.foldl_toList, Array.toList_zip]
    rw [e0]
    refine Go.wpIn_mono ((hb l i x s hx hs W).run _ W hps' hok.left.here) ?_
    rintro e a1 W1 ⟨_, env', ds', H', g1, g2, g3⟩
    cases e with
    | normal =>
      refine ⟨g2.chg.mono (fun k _ hk => .inl hk), fun W2 hc hs2 hr2 => ?_⟩
      have hfl : ∀ r ∈ H', ∀ k, r.fp k → ¬ oneB l k := by
        intro r hr k hk he
        cases he
        exact hTl (.inr ⟨g2.locF r hr _ hk hlW, hBl⟩)
      have ok2 : OK W2 (fpL H') H' W2 := ⟨Chg.refl _ _, fun r hr => r.st W1 W2 _ (g2.all r hr) hc (hfl r hr), fun r hr k hk _ => ⟨r, hr, hk⟩, fun r hr k hk _ => ⟨r, hr, hk⟩, g2.dis⟩
      have big2 : OK w0 S (H' ++ FF) W2 := by
        refine (hok.upd g2).chgd hc (fun k hk he => ?_) (fun r hr k hk he => ?_)
        · cases he
          have : w0.heap.size ≤ w.heap.size := hsz0
          omega
        · rcases List.mem_append.1 hr with hr | hr
          · exact hfl r hr k hk he
          · cases he
            have := hlt r hr _ hk
            omega
      refine Go.wpIn_mono ((g3 W2).run a1 W2 g1 ok2) ?_
      rintro e a3 W3 ⟨_, env3, ds3, H3, k1, k2, k3⟩
      have fin : ∀ H1, OK W2 (fpL H') H1 W3 → OK w0 S (H1 ++ FF) W3 ∧ w.heap.size ≤ W3.heap.size ∧ Chg (fun k => fpT w.heap.size (R i s) k ∨ W.heap.size ≤ k) W2 W3 ∧ Adds (fpT w.heap.size (R i s)) (fpT w.heap.size H1) W W3 := by
        intro H1 h
        have hs12 : W.heap.size ≤ W1.heap.size := g2.chg.size
        have hs23 : W2.heap.size ≤ W3.heap.size := h.chg.size
        have toR : ∀ k, (fpL H').wr k → fpT w.heap.size (R i s) k ∨ W.heap.size ≤ k := by
          rintro k ⟨r, hr, hk⟩
          by_cases hlt' : k < W.heap.size
          · exact .inl (.inl (g2.loc r hr k hk hlt'))
          · exact .inr (by omega)
        refine ⟨big2.upd h, by omega, h.chg.mono (fun k _ hk => toR k hk), ?_⟩
        rintro k (⟨r, hr, hk⟩ | ⟨⟨r, hr, hk⟩, hB⟩)
        · have hk3 := r.lt W3 (h.all r hr) k (r.sub k hk)
          by_cases hlt' : k < W.heap.size
          · rcases toR k (h.loc r hr k hk (by omega)) with h1 | h1
            · exact .inl h1
            · omega
          · exact .inr ⟨by omega, hk3⟩
        · have hk3 := r.lt W3 (h.all r hr) k hk
          by_cases hlt' : k < W.heap.size
          · obtain ⟨r2, hr2, hk2⟩ := h.locF r hr k hk (by omega)
            exact .inl (.inr ⟨g2.locF r2 hr2 k hk2 hlt', hB⟩)
          · exact .inr ⟨by omega, hk3⟩
      cases e with
      | normal =>
        obtain ⟨H1, F1, ht, s', hs', rfl⟩ := k3
        obtain ⟨f1, f2, f3, f4⟩ := fin _ (k2.perm ht.perm).left
        exact ⟨_, ⟨s', hs', f1, rfl, f2⟩, f3, f4⟩
      | ret =>
        obtain ⟨H1, F1, ht, hq⟩ := k3
        obtain ⟨f1, f2, f3, f4⟩ := fin _ (k2.perm ht.perm).left
        exact ⟨_, ⟨.ret, H1, .inl ⟨rfl, rfl⟩, f1, rfl, f2, hq⟩, f3, f4⟩
      | exit id =>
        obtain ⟨H1, F1, ht, hq⟩ := k3
        obtain ⟨f1, f2, f3, f4⟩ := fin _ (k2.perm ht.perm).left
        exact ⟨_, ⟨.exit id, H1, .inr ⟨id, rfl, rfl⟩, f1, rfl, f2, hq⟩, f3, f4⟩
      | goto t => exact k3.elim
      | panic ch => exact k3.elim
      | outgrown => exact k3.elim
    | exit i => exact g3.elim
    | goto l => exact g3.elim
    | ret => exact g3.elim
    | panic ch => exact g3.elim
    | outgrown => exact g3.elim
  · rintro D T W hD hdef hTD ⟨s, hs, hok, rfl, hsz⟩ hEo
    refine ⟨trivial, env, dM D :: ds, _, ⟨ha.1, by rw [ha.2.1]; rfl, ha.2.2⟩, ?_, hd s D hs⟩
    have := addD _ D W hok hD hdef hTD
    rw [hFF, ← hE] at this
    exact OK.unsh (X := objR D (.deferred (some [])) :: R xs.length s) this hEo
  · rintro D cd i T W hD hdef hTD hil ⟨e, H1, hcd, hok, rfl, hsz, hq⟩ hEo
    have hup : up ⟨P, none, n, w0, S⟩ Q e { a with defers := { target := .collected D, args := #[] } :: a.defers } W := by
      refine ⟨?_, env, dM D :: ds, _, ⟨ha.1, by rw [ha.2.1]; rfl, ha.2.2⟩, ?_, hq D⟩
      · rcases hcd with ⟨_, rfl⟩ | ⟨id, _, rfl⟩ <;> trivial
      · have := addD _ D W hok hD hdef hTD
        rw [hFF, ← hEx i] at this
        exact OK.unsh (X := objR D (.deferred (some [])) :: H1) this hEo
    rcases hcd with ⟨rfl, rfl⟩ | ⟨id, rfl, rfl⟩
    · exact wpIn_ret hup
    · exact wpIn_exit hup
end

/-! ### Such an iterator's own walk -/
structure GuestW (ow : Nat → Prop) where
  J : Nat → (Nat → Prop) → World → Prop
  W : World
  hJ : ∀ i T X Y, J i T X → Chg (fun k => (W.heap.size ≤ k ∨ ow k) ∧ ¬ T k) X Y → J i T Y

structure YieldsW (P : Program) {ow : Nat → Prop} (g gx : GuestW ow) (xs : List (Array Value)) (l : Nat) : Prop where
  run : ∀ i x T W1, xs[i]? = some x → g.J i T W1 → g.W.heap.size ≤ W1.heap.size → (∀ k, T k → k < W1.heap.size) → YieldAt (FW none) 0 P l x W1 fun e W' =>
    (e = .returned (.bool true) ∧ ∃ T', g.J (i + 1) T' W' ∧ Chg T W1 W' ∧ Adds T T' W1 W') ∨ (e = .returned (.bool false) ∧ ∃ T', gx.J i T' W' ∧ Chg T W1 W' ∧ Adds T T' W1 W')
  same : gx.W = g.W

section
variable {c : Cx} {Q : SQ} {env : Env} {ds : List Deferred} {H F : List Res} {ops : Array Oper} {rest : List Oper} {d : Nat} {ty : TypeId} {pos : String} {af : Array Edge} {ow : Nat → Prop}

end

end Go.Proofs.YtcplbkbimpiioaaGreatDoor
