/- Iterators whose elements come in an order that is drawn: general lemmas of this claim's own, about no program in particular. -/
import Derived.Test.YtbgimajbehodnaaGreatDoorLibQ
namespace Go.Proofs.YtbgimajbehodnaaGreatDoor
open Go Go.RowKit

/-- What an iterator promises whose elements come in some order: J is of the list of those that came. -/
def IterP (P : Program) (gf : Nat) (lb : Array Value) (own : Nat → Prop) (xs : List (Array Value)) (w0 : World) : Prop :=
  ∀ (l : Nat) (T0 : Nat → Prop) (J Jx : List (Array Value) → (Nat → Prop) → World → Prop) (W : World),
    Chg (fun k => ¬ own k) w0 W →
    (∀ k, own k → k < W.heap.size) →
    (∀ k, T0 k → k < W.heap.size ∧ ¬ own k) →
    (∀ i T A B, J i T A → Chg (fun k => W.heap.size ≤ k ∧ ¬ T k) A B → J i T B) →
    (∀ i T A B, Jx i T A → Chg (fun k => W.heap.size ≤ k ∧ ¬ T k) A B → Jx i T B) →
    (∀ i x T W1, (∃ rest, (i ++ x :: rest).Perm xs) → J i T W1 → W.heap.size ≤ W1.heap.size → (∀ k, T k → k < W1.heap.size) → YieldAt (FW none) 0 P l x W1 fun e W' =>
      (e = .returned (.bool true) ∧ ∃ T', J (i ++ [x]) T' W' ∧ Chg T W1 W' ∧ Adds T T' W1 W') ∨ (e = .returned (.bool false) ∧ ∃ T', Jx i T' W' ∧ Chg T W1 W' ∧ Adds T T' W1 W')) →
    J [] T0 W →
    CallsIn (FW none) 0 P gf (#[.func (.yield l) #[] #[]] ++ lb) W fun e W' => (∃ v, e = .returned v) ∧ ((∃ ys T, ys.Perm xs ∧ J ys T W') ∨ ∃ i T, Jx i T W')
theorem mem_ofP {i : List (Array Value)} {x : Array Value} {xs : List (Array Value)} (h : ∃ rest, (i ++ x :: rest).Perm xs) : x ∈ xs := by
  obtain ⟨rest, h⟩ := h
  exact h.mem_iff.1 (by simp)
/-- The body's part of such a range. -/
def RndOkP (P : Program) (ps : Array Tmp) (assign body : Code) (a : Act) (B : Nat) (xs : List (Array Value)) (J : List (Array Value) → (Nat → Prop) → World → Prop) (Jx : Code → List (Array Value) → (Nat → Prop) → World → Prop) : Prop :=
  ∀ l i x T W, (∃ rest, (i ++ x :: rest).Perm xs) → J i T W → B ≤ l → ¬ T l → (∃ r, W.heap[l]? = some (.loop r)) → (∀ k, T k → k < W.heap.size) →
      assign.wpIn (FW (some l)) 0 P (Exit.then (fun a1 W1 => Chg T W W1 ∧ ∀ W2, Chg (oneB l) W1 W2 → W2.heap.size = W1.heap.size → (∃ r, W2.heap[l]? = some (.loop r)) → body.wpIn (FW (some l)) 0 P (rndPost T W (J (i ++ [x])) (fun c => Jx c i) W2) a1 W2) (fun _ _ _ => False))
      { tmps := (ps.zip x).foldl (fun t (p, v) => t.setIfInBounds p v) a.tmps, defers := [] } W

section
variable {P : Program}
/-- The statement 'for .. := range g { .. }' outside of every round, over an iterator that has its promise. -/
theorem wpIn_rangeP {g : Operand} {ps : Array Tmp} {assign body : Code} {Q : Exit → Act → World → Prop} {a : Act} {w : World}
    {gf : Nat} {lb : Array Value} {own : Nat → Prop} {xs : List (Array Value)} {w0 : World} (hseq : IterP P gf lb own xs w0)
    (T0 : Nat → Prop) (J : List (Array Value) → (Nat → Prop) → World → Prop) (Jx : Code → List (Array Value) → (Nat → Prop) → World → Prop)
    (hg : a.eval g = .func (.func gf) #[] lb) (eg : ∀ args w, (callFunc gf args).run P w = .ok (.enter gf args) w)
    (hps : ∀ x ∈ xs, x.size = ps.size) (hb0 : Chg (fun k => ¬ own k) w0 w) (ho0 : ∀ k, own k → k < w.heap.size)
    (hT0 : ∀ k, T0 k → k < w.heap.size ∧ ¬ own k)
    (hJ : ∀ i T A B, J i T A → Chg (fun k => w.heap.size ≤ k ∧ ¬ T k) A B → J i T B) (hJx : ∀ c i T A B, Jx c i T A → Chg (fun k => w.heap.size ≤ k ∧ ¬ T k) A B → Jx c i T B)
    (h0 : J [] T0 w)
    (hbody : RndOkP P ps assign body a w.heap.size xs J Jx)
    (hdone : ∀ D ys T W, w.heap.size ≤ D → W.heap[D]? = some (.deferred (some [])) → ¬ T D → ys.Perm xs → J ys T W → Q .normal { a with defers := { target := .collected D, args := #[] } :: a.defers } W)
    (hstop : ∀ D c i T W, w.heap.size ≤ D → W.heap[D]? = some (.deferred (some [])) → ¬ T D → Jx c i T W → c.wpIn (FW none) 0 P Q { a with defers := { target := .collected D, args := #[] } :: a.defers } W) :
    (Code.rangeFunc g ps assign body).wpIn (FW none) 0 P Q a w := by
  refine wpIn_rangeFunc ?_
  intro fn _
  obtain ⟨rec, hrec⟩ : ∃ rec : LoopState → Option Code → Loop, rec = fun st pe => { state := st, pending := pe, fn, tmps := a.tmps, params := ps, assign, body, defers := w.heap.size } := ⟨_, rfl⟩
  obtain ⟨W1, hW1⟩ : ∃ W1, (w.alloc (.deferred (some []))).alloc (.loop (rec .ready none)) = W1 := ⟨_, rfl⟩
  have hL1 : W1.heap[w.heap.size + 1]? = some (.loop (rec .ready none)) := by
    rw [← hW1]; have := World.alloc_heap_new (w.alloc (.deferred (some []))) (.loop (rec .ready none)); rwa [World.size_alloc] at this
  have hK1 : W1.heap[w.heap.size]? = some (.deferred (some [])) := by
    rw [← hW1]; exact (Below.heap_alloc _ _ _ (by simp)).trans (World.alloc_heap_new w _)
  have hsz : W1.heap.size = w.heap.size + 2 := by rw [← hW1]; simp
  have hc1 : ∀ T, Chg T w W1 := fun T => by rw [← hW1]; exact (Chg.alloc _ _ _).trans (Chg.alloc _ _ _)
  obtain ⟨L, hL⟩ : ∃ L, L = w.heap.size + 1 := ⟨_, rfl⟩
  refine ⟨L, [{ target := .collected w.heap.size, args := #[] }], W1, { target := .fn (.func gf) lb, args := #[.func (.yield L) #[] #[]] }, W1, gf,
    #[.func (.yield L) #[] #[]] ++ lb, W1, ?_, ?_, ?_, ?_, fun h => by simp at h, ?_⟩
  · rw [← hW1, hrec, hL]; exact run_enterLoop_outer _ _ _ _ _
  · simp only [resolve, hg]
    simp [go_sem]
  · intro f' hf'; trivial
  · simp [invoke, go_sem, eg]
  · rw [← hL] at hL1
    refine (hseq L (fun k => T0 k ∨ k = L)
      (fun i T W => ∃ T', (∀ k, T k ↔ T' k ∨ k = L) ∧ ¬ T' L ∧ ¬ T' w.heap.size ∧ (∀ k, T' k → k < W.heap.size) ∧ J i T' W ∧ W.heap[L]? = some (.loop (rec .ready none)) ∧ W.heap[w.heap.size]? = some (.deferred (some [])))
      (fun i T W => ∃ T' c, (∀ k, T k ↔ T' k ∨ k = L) ∧ ¬ T' L ∧ ¬ T' w.heap.size ∧ Jx c i T' W ∧ W.heap[L]? = some (.loop (rec .done (some c))) ∧ W.heap[w.heap.size]? = some (.deferred (some [])))
      W1 (hb0.trans (hc1 _)) (fun k hk => by have := ho0 k hk; omega) ?_ ?_ ?_ ?_
      ⟨T0, fun _ => Iff.rfl, fun h => by have := (hT0 _ h).1; omega, fun h => by have := (hT0 _ h).1; omega, fun k hk => by have := (hT0 k hk).1; omega, hJ _ _ _ _ h0 (hc1 _), hL1, hK1⟩).mono ?_
    · rintro k (hk | rfl)
      · exact ⟨by have := (hT0 k hk).1; omega, (hT0 k hk).2⟩
      · exact ⟨by omega, fun h => by have := ho0 _ h; omega⟩
    · rintro i T A B ⟨T', ht, hn1, hn2, hTs, h1, h2, h3⟩ hc
      have hn : ∀ k, k < w.heap.size + 2 → ¬ (W1.heap.size ≤ k ∧ ¬ T k) := fun k hk h => by omega
      exact ⟨T', ht, hn1, hn2, fun k hk => Nat.lt_of_lt_of_le (hTs k hk) hc.size, hJ _ _ _ _ h1 (hc.mono (fun k _ hk => ⟨by omega, fun h => hk.2 ((ht k).2 (.inl h))⟩)), hc.heap h2 (hn _ (by omega)), hc.heap h3 (hn _ (by omega))⟩
    · rintro i T A B ⟨T', c, ht, hn1, hn2, h1, h2, h3⟩ hc
      have hn : ∀ k, k < w.heap.size + 2 → ¬ (W1.heap.size ≤ k ∧ ¬ T k) := fun k hk h => by omega
      exact ⟨T', c, ht, hn1, hn2, hJx _ _ _ _ _ h1 (hc.mono (fun k _ hk => ⟨by omega, fun h => hk.2 ((ht k).2 (.inl h))⟩)), hc.heap h2 (hn _ (by omega)), hc.heap h3 (hn _ (by omega))⟩
    · rintro i x T W hx ⟨T', ht, hn1, hn2, hTs, h1, h2, h3⟩ hle hTW
      have hlt := lt_of_heap h2
      have hput : ∀ (U : Nat → Prop) (A : World) (o : Obj), ¬ U L → Chg (fun k => w.heap.size ≤ k ∧ ¬ U k) A (A.putObj L o) := fun U A o hU => Chg.putObj _ _ _ (fun _ => ⟨by omega, hU⟩)
      refine (round_core (ro := none) hrec hn1 (hps x (mem_ofP hx)) (J := J (i ++ [x])) (Jx := fun c => Jx c i) h2 ?_ ?_ ?_).mono ?_
      · intro U A o h hU; exact hJ _ _ _ _ h (hput U A o hU)
      · intro c U A o h hU; exact hJx _ _ _ _ _ h (hput U A o hU)
      · intro hr; exact hbody L i x T' W hx h1 (by omega) hn1 hr hTs
      · have keyD : ∀ (U : Nat → Prop) (W' : World), Adds T' U W W' → ¬ U w.heap.size := fun U W' hA h => by
          rcases hA _ h with h | h
          · exact hn2 h
          · omega
        have keyA : ∀ (U : Nat → Prop) (W' : World), Adds T' U W W' → Adds T (fun k => U k ∨ k = L) W W' := fun U W' hA k hk => by
          rcases hk with hk | rfl
          · rcases hA k hk with h | h
            · exact .inl ((ht k).2 (.inl h))
            · exact .inr h
          · exact .inl ((ht k).2 (.inr rfl))
        have keyC : ∀ (W' : World), Chg (fun k => T' k ∨ k = L) W W' → Chg T W W' := fun W' h => h.mono (fun k _ hk => (ht k).2 hk)
        have keyS : ∀ (U : Nat → Prop) (W' : World), Adds T' U W W' → W.heap.size ≤ W'.heap.size → ∀ k, U k → k < W'.heap.size := fun U W' hA hs k hk => by
          rcases hA k hk with h | h
          · exact Nat.lt_of_lt_of_le (hTs k h) hs
          · exact h.2
        have hD : ¬ (T' w.heap.size ∨ w.heap.size = L) := fun h => by
          rcases h with h | h
          · exact hn2 h
          · omega
        rintro e W' (⟨rfl, U, h4, hU, h5, h6, hA⟩ | ⟨rfl, c, U, h4, hU, h5, h6, hA⟩)
        · exact .inl ⟨rfl, fun k => U k ∨ k = L, ⟨U, fun _ => Iff.rfl, hU, keyD U W' hA, keyS U W' hA h6.size, h4, h5, h6.heap h3 hD⟩, keyC _ h6, keyA _ _ hA⟩
        · exact .inr ⟨rfl, fun k => U k ∨ k = L, ⟨U, c, fun _ => Iff.rfl, hU, keyD U W' hA, h4, h5, h6.heap h3 hD⟩, keyC _ h6, keyA _ _ hA⟩
    · have hput : ∀ (U : Nat → Prop) (A : World) (o : Obj), ¬ U L → Chg (fun k => w.heap.size ≤ k ∧ ¬ U k) A (A.putObj L o) := fun U A o hU => Chg.putObj _ _ _ (fun _ => ⟨by omega, hU⟩)
      rintro e W2 ⟨⟨v, rfl⟩, (⟨ys, T, hys, T', ht, hn1, hn2, hTs, h1, h2, h3⟩ | ⟨i, T, T', c, ht, hn1, hn2, h1, h2, h3⟩)⟩
      · refine ⟨none, _, by have := run_endLoop (P := P) h2 (by rw [hrec]; simp); rw [hrec] at this; exact this, ?_⟩
        exact hdone _ ys T' _ (Nat.le_refl _) ((World.putObj_heap_other (by omega)).trans h3) hn2 hys (hJ _ _ _ _ h1 (hput _ _ _ hn1))
      · refine ⟨some c, _, by have := run_endLoop (P := P) h2 (by rw [hrec]; simp); rw [hrec] at this; exact this, ?_⟩
        exact hstop _ c i T' _ (Nat.le_refl _) ((World.putObj_heap_other (by omega)).trans h3) hn2 (hJx _ _ _ _ _ h1 (hput _ _ _ hn1))

end

structure GuestP where
  J : List (Array Value) → (Nat → Prop) → World → Prop
  W : World
  hJ : ∀ i T A B, J i T A → Chg (fun k => W.heap.size ≤ k ∧ ¬ T k) A B → J i T B

def gstP (g : GuestP) (i : List (Array Value)) (T : Nat → Prop) : Res where
  fp := fun k => T k ∨ k < g.W.heap.size
  wr := T
  sub := fun _ h => .inl h
  ok := fun w => g.J i T w ∧ (∀ k, T k → k < w.heap.size) ∧ g.W.heap.size ≤ w.heap.size
  lt := fun w h k hk => by
    rcases hk with h1 | h1
    · exact h.2.1 k h1
    · exact Nat.lt_of_lt_of_le h1 h.2.2
  st := fun w w' D h hc hd => ⟨g.hJ _ _ _ _ h.1 (hc.mono (fun k _ hD => ⟨Nat.le_of_not_lt fun hlt => hd k (.inr hlt) hD, fun ht => hd k (.inl ht) hD⟩)), fun k hk => Nat.lt_of_lt_of_le (h.2.1 k hk) hc.size, Nat.le_trans h.2.2 hc.size⟩

structure YieldsP (P : Program) (g gx : GuestP) (xs : List (Array Value)) (l : Nat) : Prop where
  run : ∀ i x T W1, (∃ rest, (i ++ x :: rest).Perm xs) → g.J i T W1 → g.W.heap.size ≤ W1.heap.size → (∀ k, T k → k < W1.heap.size) → YieldAt (FW none) 0 P l x W1 fun e W' =>
    (e = .returned (.bool true) ∧ ∃ T', g.J (i ++ [x]) T' W' ∧ Chg T W1 W' ∧ Adds T T' W1 W') ∨ (e = .returned (.bool false) ∧ ∃ T', gx.J i T' W' ∧ Chg T W1 W' ∧ Adds T T' W1 W')
  same : gx.W = g.W

section
variable {c : Cx} {Q : SQ} {env : Env} {ds : List Deferred} {H F : List Res} {ops : Array Oper} {rest : List Oper} {d : Nat} {ty : TypeId} {pos : String} {af : Array Edge}

theorem WL.yieldP {f : Operand} {xs : List Operand} {ts : Array TypeId} {l : Nat} {us : List Value} {g gx : GuestP} {ys : List (Array Value)} {i : List (Array Value)} {T : Nat → Prop} (hy : YieldsP c.P g gx ys l)
    (hf : ev env f = some (.func (.yield l) #[] #[])) (hx : evs env xs = some us) (hi : ∃ rest, (i ++ us.toArray :: rest).Perm ys) (tk : Take1 H (gstP g i T) F) (hn : Nat.blt d c.n = true)
    (k : ∀ (b : Bool) T', WL c ops Q rest ((d, .bool b) :: env) ds (gstP (if b then g else gx) (if b then i ++ [us.toArray] else i) T' :: F)) :
    WL c ops Q (⟨some d, .call { callee := .value f, args := xs.toArray, argTypes := ts }, ty, pos, af, none⟩ :: rest) env ds H :=
  ⟨fun a w ha hw => wpListIn_plain rfl fun K hK => ⟨fun _ _ => trivial, by
    have hg := hw.get tk
    obtain ⟨fn, tmps, assign, body, hrun, hR⟩ := yieldAt_any (ro' := c.ro) (n' := 0 - 1) (hy.run i _ T w hi hg.1 hg.2.2 hg.2.1)
    rw [Oper.semAt_plain (FW c.ro) _ _ (by intro cl hc; cases hc)]
    have e1 : (execOp a.eval ⟨some d, .call { callee := .value f, args := xs.toArray, argTypes := ts }, ty, pos, af, none⟩).run c.P w = .ok (.round l fn tmps assign body) w := by
      simp only [execOp, resolve, Deferred.ofValue, ha.ev hf, invoke, Sem.run_bind, Sem.run_pure, Result.andThen_ok, List.map_toArray, ha.evs hx, Array.empty_append, List.append_toArray, Array.append_empty]
      exact hrun
    rw [e1]
    refine ⟨fun h => by simp at h, RoundIn.mono hR ?_⟩
    have key : ∀ (b : Bool) T' w', (if b then g else gx).J (if b then i ++ [us.toArray] else i) T' w' → Chg T w w' → Adds T T' w w' → K (a.put (some d) (.bool b)) w' := by
      intro b T' w' hJ hc hA
      refine hK _ _ ((k b T').run _ _ (ha.put hn _) ?_)
      have hW : (if b then g else gx).W = g.W := by cases b; exact hy.same; rfl
      refine hw.turnG tk hc ⟨hJ, fun q hq => ?_, by rw [hW]; exact Nat.le_trans hg.2.2 hc.size⟩ (fun q hq => ?_) (fun q hq => ?_)
      · rcases hA q hq with h | h
        · exact Nat.lt_of_lt_of_le (hg.2.1 q h) hc.size
        · exact h.2
      · rcases hA q hq with h | h
        · exact .inl h
        · exact .inr h.1
      · rcases hq with h | h
        · rcases hA q h with h | h
          · exact .inl (.inl h)
          · exact .inr h.1
        · rw [hW] at h; exact .inl (.inr h)
    rintro e w' (⟨rfl, T', h1, h2, h3⟩ | ⟨rfl, T', h1, h2, h3⟩)
    · exact key true T' w' h1 h2 h3
    · exact key false T' w' h1 h2 h3⟩⟩
end


theorem IterP.later {P : Program} {gf : Nat} {lb : Array Value} {own : Nat → Prop} {xs : List (Array Value)} {w w' : World} {D : Nat → Prop} (h : IterP P gf lb own xs w) (hc : Chg D w w') (hd : ∀ k, own k → ¬ D k) : IterP P gf lb own xs w' :=
  fun l T0 J Jx W hW => h l T0 J Jx W ((hc.mono (fun k _ hk ho => hd k ho hk)).trans hW)

def itP (P : Program) (gf : Nat) (lb : List Value) (own : Nat → Prop) (xs : List (Array Value)) : Res where
  fp := own
  wr := noB
  sub := fun _ h => h.elim
  ok := fun w => IterP P gf lb.toArray own xs w ∧ ∀ k, own k → k < w.heap.size
  lt := fun w h k hk => h.2 k hk
  st := fun w w' D h hc hd => ⟨h.1.later hc hd, fun k hk => Nat.lt_of_lt_of_le (h.2 k hk) hc.size⟩

theorem iter_ofP {P : Program} {gf : FuncId} {fn : Func} {k : Code} {n : Nat} {lb : List Value} {xs : List (Array Value)} {A : List Res} {w0 : World} (hf : P.funcs[gf]? = some fn) (hb : fn.body = some k) (hn : fn.ntmps = n) (hl : Nat.ble (lb.length + 1) n = true)
    (hA : OK w0 (fpL A) A w0) (hw : ∀ r ∈ A, ∀ k, ¬ r.wr k)
    (h : ∀ l W g gx T0, YieldsP P g gx xs l → WC ⟨P, none, n, W, fpL (gstP g [] T0 :: A)⟩ k (retS ⟨P, none, n, W, fpL (gstP g [] T0 :: A)⟩ fn (fun e w' => (∃ v, e = .returned v) ∧ ((∃ ys T, ys.Perm xs ∧ g.J ys T w') ∨ ∃ i T, gx.J i T w'))) (args0 0 (.func (.yield l) #[] #[] :: lb)) [] (gstP g [] T0 :: A)) :
    IterP P gf lb.toArray (fpL A).rd xs w0 := by
  intro l T0 J Jx W hW hown hT0 hJ hJx hY h00
  have hy : YieldsP P ⟨J, W, hJ⟩ ⟨Jx, W, hJx⟩ xs l := ⟨hY, rfl⟩
  have hk := h l W ⟨J, W, hJ⟩ ⟨Jx, W, hJx⟩ T0 hy
  have hst : OK W (fpL (gstP ⟨J, W, hJ⟩ [] T0 :: A)) (gstP ⟨J, W, hJ⟩ [] T0 :: A) W := by
    refine ⟨Chg.refl _ _, ?_, fun r hr k hk _ => ⟨r, hr, hk⟩, fun r hr k hk _ => ⟨r, hr, hk⟩, List.pairwise_cons.2 ⟨fun s hs => ⟨fun k a b => (hT0 k a).2 ⟨s, hs, b⟩, fun k a b => hw s hs k b⟩, hA.dis⟩⟩
    intro r hr
    rcases List.mem_cons.1 hr with rfl | hr
    · exact ⟨h00, fun k hk => (hT0 k hk).1, Nat.le_refl _⟩
    · exact r.st w0 W _ (hA.all r hr) hW (fun k hk hn => hn ⟨r, hr, hk⟩)
  have := enterS (P := P) (f := gf) (w := W) (vs := .func (.yield l) #[] #[] :: lb) hf hb hn (by simpa using hl) hst hk
  have e : (#[Value.func (.yield l) #[] #[]] ++ lb.toArray) = (.func (.yield l) #[] #[] :: lb).toArray := by simp
  rw [e]
  exact callsIn_fw this


section
variable {P : Program} {n : Nat} {w0 : World} {S : Pm} {Q : SQ} {env : Env} {ds : List Deferred} {H H2 F : List Res}

theorem WC.rangeP {g : Operand} {ps : Array Tmp} {assign body : Code} {α : Type} {gf : Nat} {lb : List Value} {own : Nat → Prop} {xs : List (Array Value)}
    (R : List (Array Value) → α → List Res) (okp : List (Array Value) → α → Prop) (s0 : α)
    (hg : ev env g = some (.func (.func gf) #[] lb.toArray)) (eg : ∀ args w, (callFunc gf args).run P w = .ok (.enter gf args) w) (hps : ∀ x ∈ xs, x.size = ps.size) (hpn : (ps.toList.all fun p => Nat.blt p n) = true)
    (tk : Take1 H (itP P gf lb own xs) H2) (h0 : okp [] s0) (tk2 : TakeL H2 (R [] s0) F)
    (hb : ∀ l i x s, (∃ rest, (i ++ x :: rest).Perm xs) → okp i s → ∀ W, WC ⟨P, some l, n, W, fpL (R i s)⟩ assign (thenS (fun env' ds' H' => ∀ W2, WC ⟨P, some l, n, W2, fpL H'⟩ body (rndS Q env ds (itP P gf lb own xs :: F) (fun H1 => ∃ s', okp (i ++ [x]) s' ∧ H1 = R (i ++ [x]) s')) env' ds' H') (fun _ _ _ _ => False)) (psEnv env ps.toList x.toList) [] (R i s))
    (hd : ∀ ys s D, ys.Perm xs → okp ys s → Q .normal env (dM D :: ds) (objR D (.deferred (some [])) :: (R ys s ++ (itP P gf lb own xs :: F)))) :
    WC ⟨P, none, n, w0, S⟩ (.rangeFunc g ps assign body) Q env ds H := by
  refine ⟨fun a w ha hw => ?_⟩
  obtain ⟨FF, hFF⟩ : ∃ FF, FF = itP P gf lb own xs :: F := ⟨_, rfl⟩
  have hw1 : OK w0 S (itP P gf lb own xs :: H2) w := hw.perm tk.perm
  have hit : IterP P gf lb.toArray own xs w ∧ ∀ k, own k → k < w.heap.size := hw1.all _ (List.mem_cons_self ..)
  have hw2 : OK w0 S (R [] s0 ++ FF) w := by
    rw [hFF]
    exact hw.perm (tk.perm.trans ((List.Perm.cons _ tk2.perm).trans List.perm_middle.symm))
  have hlt : ∀ r ∈ FF, ∀ k, r.fp k → k < w.heap.size := fun r hr k hk => r.lt w (hw2.all r (List.mem_append_right _ hr)) k hk
  have hsz0 := hw.chg.size
  have stab : ∀ (H1 : List Res) (A B : World), OK w0 S (H1 ++ FF) A → Chg (fun k => w.heap.size ≤ k ∧ ¬ fpT w.heap.size H1 k) A B → OK w0 S (H1 ++ FF) B := by
    intro H1 A B h hc
    refine h.chgd hc (fun k hk hD => ?_) (fun r hr k hk hD => ?_)
    · have hD1 := hD.1
      have : w0.heap.size ≤ w.heap.size := hsz0
      omega
    · rcases List.mem_append.1 hr with hr | hr
      · exact hD.2 (.inr ⟨⟨r, hr, hk⟩, hD.1⟩)
      · have := hlt r hr k hk
        have := hD.1
        omega
  have addD : ∀ (H1 : List Res) (D : Nat) (W : World), OK w0 S (H1 ++ FF) W → w.heap.size ≤ D → W.heap[D]? = some (.deferred (some [])) → ¬ fpT w.heap.size H1 D → OK w0 S (objR D (.deferred (some [])) :: (H1 ++ FF)) W := by
    intro H1 D W h hD hdef hT
    refine h.addR hdef (fun k hk => by cases hk; have : w0.heap.size ≤ w.heap.size := hsz0; omega) (fun s hs k hk hsk => ?_)
    cases hk
    rcases List.mem_append.1 hs with hs | hs
    · exact hT (.inr ⟨⟨s, hs, hsk⟩, hD⟩)
    · have := hlt s hs D hsk
      omega
  refine wpIn_rangeP (P := P) (own := own) (xs := xs) (w0 := w) hit.1 (fpT w.heap.size (R [] s0))
    (fun i T W => ∃ s, okp i s ∧ OK w0 S (R i s ++ FF) W ∧ T = fpT w.heap.size (R i s) ∧ w.heap.size ≤ W.heap.size)
    (fun cd i T W => ∃ e H1, ((cd = .ret ∧ e = .ret) ∨ ∃ id, cd = .exit id ∧ e = .exit id) ∧ OK w0 S (H1 ++ FF) W ∧ T = fpT w.heap.size H1 ∧ w.heap.size ≤ W.heap.size ∧ ∀ D, Q e env (dM D :: ds) (objR D (.deferred (some [])) :: (H1 ++ FF)))
    (ha.ev hg) eg hps (Chg.refl _ _) hit.2 ?_ ?_ ?_ ⟨s0, h0, hw2, rfl, Nat.le_refl _⟩ ?_ ?_ ?_
  · intro k hk
    rcases hk with ⟨r, hr, hk⟩ | ⟨⟨r, hr, hk⟩, hB⟩
    · refine ⟨r.lt w (hw2.all r (List.mem_append_left _ hr)) k (r.sub k hk), fun ho => ?_⟩
      exact ((List.pairwise_append.1 hw2.dis).2.2 r hr _ (by rw [hFF]; exact List.mem_cons_self ..)).1 k hk ho
    · have := r.lt w (hw2.all r (List.mem_append_left _ hr)) k hk
      omega
  · rintro i T A B ⟨s, h1, h2, rfl, h3⟩ hc
    exact ⟨s, h1, stab _ _ _ h2 hc, rfl, Nat.le_trans h3 hc.size⟩
  · rintro cd i T A B ⟨e, H1, h1, h2, rfl, h3, h4⟩ hc
    exact ⟨e, H1, h1, stab _ _ _ h2 hc, rfl, Nat.le_trans h3 hc.size, h4⟩
  · rintro l i x T W hx ⟨s, hs, hok, rfl, hsz⟩ hBl hTl hr hTlt
    obtain ⟨rec, hrec⟩ := hr
    have hlW := lt_of_heap hrec
    have hps' := Has.ps (n := n) ps.toList x.toList env { a with defers := [] } hpn ⟨ha.1, rfl, ha.2.2⟩
    have e0 : (ps.zip x).foldl (fun t (p, v) => t.setIfInBounds p v) a.tmps = (ps.toList.zip x.toList).foldl (fun t (p, v) => t.setIfInBounds p v) a.tmps := by
      rw [← Array.foldl_toList, Array.toList_zip]
    rw [e0]
    refine Go.wpIn_mono ((hb l i x s hx hs W).run _ W hps' hok.left.here) ?_
    rintro e a1 W1 ⟨_, env', ds', H', g1, g2, g3⟩
    cases e with
    | normal =>
      refine ⟨g2.chg.mono (fun k _ hk => .inl hk), fun W2 hc hs2 hr2 => ?_⟩
      have hfl : ∀ r ∈ H', ∀ k, r.fp k → ¬ oneB l k := by
        intro r hr k hk he
        cases he
        exact hTl (.inr ⟨g2.locF r hr _ hk hlW, hBl⟩)
      have ok2 : OK W2 (fpL H') H' W2 := ⟨Chg.refl _ _, fun r hr => r.st W1 W2 _ (g2.all r hr) hc (hfl r hr), fun r hr k hk _ => ⟨r, hr, hk⟩, fun r hr k hk _ => ⟨r, hr, hk⟩, g2.dis⟩
      have big2 : OK w0 S (H' ++ FF) W2 := by
        refine (hok.upd g2).chgd hc (fun k hk he => ?_) (fun r hr k hk he => ?_)
        · cases he
          have : w0.heap.size ≤ w.heap.size := hsz0
          omega
        · rcases List.mem_append.1 hr with hr | hr
          · exact hfl r hr k hk he
          · cases he
            have := hlt r hr _ hk
            omega
      refine Go.wpIn_mono ((g3 W2).run a1 W2 g1 ok2) ?_
      rintro e a3 W3 ⟨_, env3, ds3, H3, k1, k2, k3⟩
      have fin : ∀ H1, OK W2 (fpL H') H1 W3 → OK w0 S (H1 ++ FF) W3 ∧ w.heap.size ≤ W3.heap.size ∧ Chg (fun k => fpT w.heap.size (R i s) k ∨ W.heap.size ≤ k) W2 W3 ∧ Adds (fpT w.heap.size (R i s)) (fpT w.heap.size H1) W W3 := by
        intro H1 h
        have hs12 : W.heap.size ≤ W1.heap.size := g2.chg.size
        have hs23 : W2.heap.size ≤ W3.heap.size := h.chg.size
        have toR : ∀ k, (fpL H').wr k → fpT w.heap.size (R i s) k ∨ W.heap.size ≤ k := by
          rintro k ⟨r, hr, hk⟩
          by_cases hlt' : k < W.heap.size
          · exact .inl (.inl (g2.loc r hr k hk hlt'))
          · exact .inr (by omega)
        refine ⟨big2.upd h, by omega, h.chg.mono (fun k _ hk => toR k hk), ?_⟩
        rintro k (⟨r, hr, hk⟩ | ⟨⟨r, hr, hk⟩, hB⟩)
        · have hk3 := r.lt W3 (h.all r hr) k (r.sub k hk)
          by_cases hlt' : k < W.heap.size
          · rcases toR k (h.loc r hr k hk (by omega)) with h1 | h1
            · exact .inl h1
            · omega
          · exact .inr ⟨by omega, hk3⟩
        · have hk3 := r.lt W3 (h.all r hr) k hk
          by_cases hlt' : k < W.heap.size
          · obtain ⟨r2, hr2, hk2⟩ := h.locF r hr k hk (by omega)
            exact .inl (.inr ⟨g2.locF r2 hr2 k hk2 hlt', hB⟩)
          · exact .inr ⟨by omega, hk3⟩
      cases e with
      | normal =>
        obtain ⟨H1, F1, ht, s', hs', rfl⟩ := k3
        obtain ⟨f1, f2, f3, f4⟩ := fin _ (k2.perm ht.perm).left
        exact ⟨_, ⟨s', hs', f1, rfl, f2⟩, f3, f4⟩
      | ret =>
        obtain ⟨H1, F1, ht, hq⟩ := k3
        obtain ⟨f1, f2, f3, f4⟩ := fin _ (k2.perm ht.perm).left
        rw [← hFF] at hq
        exact ⟨_, ⟨.ret, H1, .inl ⟨rfl, rfl⟩, f1, rfl, f2, hq⟩, f3, f4⟩
      | exit id =>
        obtain ⟨H1, F1, ht, hq⟩ := k3
        obtain ⟨f1, f2, f3, f4⟩ := fin _ (k2.perm ht.perm).left
        rw [← hFF] at hq
        exact ⟨_, ⟨.exit id, H1, .inr ⟨id, rfl, rfl⟩, f1, rfl, f2, hq⟩, f3, f4⟩
      | goto t => exact k3.elim
      | panic ch => exact k3.elim
      | outgrown => exact k3.elim
    | exit i => exact g3.elim
    | goto l => exact g3.elim
    | ret => exact g3.elim
    | panic ch => exact g3.elim
    | outgrown => exact g3.elim
  · rintro D ys T W hD hdef hTD hys ⟨s, hs, hok, rfl, hsz⟩
    refine ⟨trivial, env, dM D :: ds, _, ⟨ha.1, by rw [ha.2.1]; rfl, ha.2.2⟩, addD _ D W hok hD hdef hTD, ?_⟩
    rw [hFF]
    exact hd ys s D hys hs
  · rintro D cd i T W hD hdef hTD ⟨e, H1, hcd, hok, rfl, hsz, hq⟩
    have hup : up ⟨P, none, n, w0, S⟩ Q e { a with defers := { target := .collected D, args := #[] } :: a.defers } W := by
      refine ⟨?_, env, dM D :: ds, _, ⟨ha.1, by rw [ha.2.1]; rfl, ha.2.2⟩, addD _ D W hok hD hdef hTD, hq D⟩
      rcases hcd with ⟨_, rfl⟩ | ⟨id, _, rfl⟩ <;> trivial
    rcases hcd with ⟨rfl, rfl⟩ | ⟨id, rfl, rfl⟩
    · exact wpIn_ret hup
    · exact wpIn_exit hup
end
theorem itEndP {c : Cx} {fn : Func} {e : Exit} {env : Env} {H F : List Res} {g gx : GuestP} {xs ys : List (Array Value)} {T : Nat → Prop} (he : e = .normal ∨ e = .ret) (hr : fn.results = #[]) (tk : Take1 H (gstP g ys T) F) (hp : ys.Perm xs) :
    retS c fn (fun e w' => (∃ v, e = .returned v) ∧ ((∃ ys T, ys.Perm xs ∧ g.J ys T w') ∨ ∃ i T, gx.J i T w')) e env [] H :=
  ret0 he hr fun w hw => ⟨⟨_, rfl⟩, .inl ⟨ys, T, hp, (hw.get tk).1⟩⟩
theorem itStopP {c : Cx} {fn : Func} {e : Exit} {env : Env} {H F : List Res} {g gx : GuestP} {xs ys : List (Array Value)} {T : Nat → Prop} (he : e = .normal ∨ e = .ret) (hr : fn.results = #[]) (tk : Take1 H (gstP gx ys T) F) :
    retS c fn (fun e w' => (∃ v, e = .returned v) ∧ ((∃ ys T, ys.Perm xs ∧ g.J ys T w') ∨ ∃ i T, gx.J i T w')) e env [] H :=
  ret0 he hr fun w hw => ⟨⟨_, rfl⟩, .inr ⟨ys, T, (hw.get tk).1⟩⟩
theorem OK.toIterP {w0 : World} {S : Pm} {A F : List Res} {w : World} {P : Program} {gf : Nat} {lb : List Value} {own : Nat → Prop} {xs : List (Array Value)} (h : OK w0 S (A ++ F) w) (hi : IterP P gf lb.toArray own xs w) (ho : ∀ k, own k → (fpL A).rd k) : OK w0 S (itP P gf lb own xs :: F) w := by
  refine OK.upd (B := [itP P gf lb own xs]) h (OK.one (Chg.refl _ _) ⟨hi, fun k hk => ?_⟩ (fun k hk _ => hk.elim) (fun k hk _ => ho k hk))
  obtain ⟨r, hr, hk⟩ := ho k hk
  exact r.lt w (h.all r (List.mem_append_left _ hr)) k hk
end Go.Proofs.YtbgimajbehodnaaGreatDoor
