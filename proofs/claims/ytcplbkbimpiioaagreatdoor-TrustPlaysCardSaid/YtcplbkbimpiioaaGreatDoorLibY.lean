/- Ranges over functions, over abstract states: an iterator's walk, the loop's rule, functions that leave marks: general lemmas of this claim's own, about no program in particular. -/
import Derived.Test.YtcplbkbimpiioaaGreatDoorLibW
namespace Go.Proofs.YtcplbkbimpiioaaGreatDoor
open Go Go.RowKit

/-! ### More on resources -/

/-- Held for reading alone. -/
def roR (r : Res) : Res := ⟨r.fp, noB, fun _ h => h.elim, r.ok, r.lt, r.st⟩

theorem OK.freeze {w0 : World} {S : Pm} {H : List Res} {w : World} (h : OK w0 S H w) : OK w0 S (H.map roR) w := by
  have hm : ∀ r, r ∈ H.map roR → ∃ s ∈ H, r = roR s := fun r hr => by
    obtain ⟨s, hs, e⟩ := List.mem_map.1 hr; exact ⟨s, hs, e.symm⟩
  refine ⟨h.chg, ?_, ?_, ?_, ?_⟩
  · intro r hr; obtain ⟨s, hs, rfl⟩ := hm r hr; exact h.all s hs
  · intro r hr k hk; obtain ⟨s, hs, rfl⟩ := hm r hr; exact hk.elim
  · intro r hr; obtain ⟨s, hs, rfl⟩ := hm r hr; exact h.locF s hs
  · refine List.pairwise_map.2 (h.dis.imp ?_)
    intro r s _
    exact ⟨fun k a _ => a.elim, fun k _ b => b.elim⟩

theorem rd_freeze {A : List Res} {k : Nat} (h : (fpL (A.map roR)).rd k) : (fpL A).rd k := by
  obtain ⟨r, hr, hk⟩ := h
  obtain ⟨s, hs, rfl⟩ := List.mem_map.1 hr
  exact ⟨s, hs, hk⟩

theorem OK.chgd {w0 : World} {S : Pm} {H : List Res} {A B : World} {D : Nat → Prop} (h : OK w0 S H A) (hc : Chg D A B) (hD : ∀ k, k < w0.heap.size → ¬ D k) (hf : ∀ r ∈ H, ∀ k, r.fp k → ¬ D k) : OK w0 S H B :=
  ⟨h.chg.trans' hc (fun _ _ e => e) (fun k hk e => absurd e (hD k hk)), fun r hr => r.st A B D (h.all r hr) hc (hf r hr), h.loc, h.locF, h.dis⟩

/-- What is held apart from all else may be added. -/
theorem OK.addR {w0 : World} {S : Pm} {H : List Res} {w : World} {r : Res} (h : OK w0 S H w) (hr : r.ok w) (hl : ∀ k, r.fp k → ¬ k < w0.heap.size) (hd : ∀ s ∈ H, ∀ k, r.fp k → ¬ s.fp k) : OK w0 S (r :: H) w := by
  refine ⟨h.chg, ?_, ?_, ?_, List.pairwise_cons.2 ⟨fun s hs => ⟨fun k a b => hd s hs k (r.sub k a) b, fun k a b => hd s hs k a (s.sub k b)⟩, h.dis⟩⟩
  · intro s hs
    rcases List.mem_cons.1 hs with rfl | hs
    · exact hr
    · exact h.all s hs
  · intro s hs k hk hlt
    rcases List.mem_cons.1 hs with rfl | hs
    · exact absurd hlt (hl k (s.sub k hk))
    · exact h.loc s hs k hk hlt
  · intro s hs k hk hlt
    rcases List.mem_cons.1 hs with rfl | hs
    · exact absurd hlt (hl k hk)
    · exact h.locF s hs k hk hlt

section
variable {c : Cx} {Q : SQ} {env : Env} {ds : List Deferred} {H F : List Res} {ops : Array Oper} {rest : List Oper} {dst : Option Tmp} {ty : TypeId} {pos : String} {af : Array Edge} {g : Option (Nat × Bool)}
theorem Yl.loadRo {t : TypeId} {x : Operand} {b o : Nat} {T : TypeId} {cs : List Value} {v : Value} (ho : isOne c.P t = true) (hx : ev env x = some (.pointer (some ⟨b, o, none⟩))) (tk : Take1 H (roR (blkR b T cs)) F) (hv : cs[o]? = some v) : Yl c env ds H ⟨dst, .load t x, ty, pos, af, g⟩ v := fun a w ha hw => by
  have hb : w.heap[b]? = some (.cells cs.toArray T (0, 0)) := hw.get tk
  have : w.cell? ⟨b, o, none⟩ = some v := by rw [cell_of_row w b o _ T (0, 0) hb]; simpa using hv
  simp [execOp, ha.ev hx, run_loadAt_one ho this]
end

section
variable {c : Cx} {env : Env} {ds : List Deferred} {H : List Res} {dst : Option Tmp} {ty : TypeId} {pos : String} {af : Array Edge} {g : Option (Nat × Bool)}
theorem Yl.max2 {t u : TypeId} {x y : Operand} {k k2 : IntKind} {i j : Int} (hx : ev env x = some (.int k i)) (hy : ev env y = some (.int k2 j)) : Yl c env ds H ⟨dst, .call { callee := .builtin .max, args := #[x, y], argTypes := #[t, u] }, ty, pos, af, g⟩ (.int k (if j > i then j else i)) := fun a w ha _ => by
  simp [execOp, resolve, invoke, builtin, Builtin.max_, Builtin.max2, ha.ev hx, ha.ev hy]
theorem Yl.min2 {t u : TypeId} {x y : Operand} {k k2 : IntKind} {i j : Int} (hx : ev env x = some (.int k i)) (hy : ev env y = some (.int k2 j)) : Yl c env ds H ⟨dst, .call { callee := .builtin .min, args := #[x, y], argTypes := #[t, u] }, ty, pos, af, g⟩ (.int k (if j < i then j else i)) := fun a w ha _ => by
  simp [execOp, resolve, invoke, builtin, Builtin.min_, Builtin.min2, ha.ev hx, ha.ev hy]
end

/-! ### A block that is read, and stays so -/

/-- The block b holds these cells, whatever becomes of the blocks in T. -/
def BlkS (w : World) (T : Pm) (b : Nat) (t : TypeId) (cs : List Value) : Prop := ∀ w', Chg T.wr w w' → w'.heap[b]? = some (.cells cs.toArray t (0, 0))

section
variable {c : Cx} {env : Env} {ds : List Deferred} {H A F : List Res} {dst : Option Tmp} {ty : TypeId} {pos : String} {af : Array Edge} {g : Option (Nat × Bool)}
theorem OK.srcB {F' : List Res} {w : World} {b : Nat} {t : TypeId} {cs : List Value} (hw : OK c.w0 c.S (A ++ F) w) (tk : Take1 F (blkR b t cs) F') : BlkS w (fpL A) b t cs := fun w' hc => by
  have hok := hw.all _ (List.mem_append_right _ tk.mem)
  refine (blkR b t cs).st w w' _ hok hc fun k hk => ?_
  rintro ⟨s, hs, hsk⟩
  exact ((List.pairwise_append.1 hw.dis).2.2 s hs _ tk.mem).1 k hsk hk
theorem OK.srcBS {w : World} {b : Nat} {t : TypeId} {cs : List Value} (hw : OK c.w0 c.S (A ++ F) w) (h : BlkS c.w0 c.S b t cs) : BlkS w (fpL A) b t cs := fun w' hc =>
  h w' (hw.chg.trans' hc (fun _ _ e => e) (by
    rintro i hi ⟨s, hs, hsk⟩
    exact hw.loc s (List.mem_append_left _ hs) i hsk hi))
theorem Yl.loadS {t : TypeId} {x : Operand} {b o : Nat} {T : TypeId} {cs : List Value} {v : Value} (ho : isOne c.P t = true) (hx : ev env x = some (.pointer (some ⟨b, o, none⟩))) (hs : BlkS c.w0 c.S b T cs) (hv : cs[o]? = some v) : Yl c env ds H ⟨dst, .load t x, ty, pos, af, g⟩ v := fun a w ha hw => by
  have hb : w.heap[b]? = some (.cells cs.toArray T (0, 0)) := hs w hw.chg
  have : w.cell? ⟨b, o, none⟩ = some v := by rw [cell_of_row w b o _ T (0, 0) hb]; simpa using hv
  simp [execOp, ha.ev hx, run_loadAt_one ho this]
theorem Yl.loadNS {t : TypeId} {x : Operand} {b o n : Nat} {T : TypeId} {cs cs' : List Value} (ho : aggB c.P t n = true) (hx : ev env x = some (.pointer (some ⟨b, o, none⟩))) (hs : BlkS c.w0 c.S b T cs) (hl : Nat.ble (o + n) cs.length = true) (he : (cs.drop o).take n = cs') : Yl c env ds H ⟨dst, .load t x, ty, pos, af, g⟩ (.agg cs'.toArray) := fun a w ha hw => by
  replace hl : o + n ≤ cs.length := Nat.le_of_ble_eq_true hl
  have hb : w.heap[b]? = some (.cells cs.toArray T (0, 0)) := hs w hw.chg
  subst he
  have := run_loadAt_agg (P := c.P) (cs := (cs.drop o).take n) ho (by simp; omega) (b := b) (o := o) (w := w) (fun j v hj => by
    rw [cell_of_row w b (o + j) _ T (0, 0) hb]
    rw [List.getElem?_take] at hj
    split at hj
    · rw [List.getElem?_drop] at hj; simpa using hj
    · cases hj)
  simp [execOp, ha.ev hx, this]
theorem Yl.com {t : TypeId} {x : Operand} {k : IntKind} {i : Int} (hx : ev env x = some (.int k i)) : Yl c env ds H ⟨dst, .unOp .xor t x, ty, pos, af, g⟩ (.int k (bits .xor k (if k.signed then -1 else k.max) i)) := fun a w ha _ => by
  simp [execOp, ha.ev hx, Op.unary, intBits_xor]
end

/-! ### A row with one place that may hold anything (regions that draw and end in one store) -/

def holeR (v : Value) (e n : Nat) (cs : List Value) (t : Nat) : Res where
  fp := blk v
  wr := blk v
  sub := fun _ h => h
  ok := fun w => ∃ u, Sown w e 1 v n (cs.set t u)
  lt := fun w ⟨_, h⟩ k hk => h.lt k hk
  st := fun w w' D ⟨u, h⟩ hc hd => ⟨u, h.chg hc hd⟩

def Impl (c : Cx) (H Hs : List Res) : Prop := ∀ w, OK c.w0 c.S H w → OK c.w0 c.S Hs w

section
variable {c : Cx} {Q : SQ} {env : Env} {ds : List Deferred} {H F A Hs : List Res} {ops : Array Oper} {rest : List Oper} {d : Nat} {op : Op} {dst : Option Tmp} {ty : TypeId} {pos : String} {af : Array Edge} {g : Option (Nat × Bool)} {fuel : Nat} {listed : Array Bool}

theorem holeI {v : Value} {e n t : Nat} {cs cs0 : List Value} (tk : Take1 H (ownR v e 1 n cs) F) (h : ∃ u, cs = cs0.set t u) : Impl c H [holeR v e n cs0 t] := fun w hw => by
  have h1 := (hw.perm tk.perm)
  obtain ⟨u, rfl⟩ := h
  have h2 : OK c.w0 c.S (holeR v e n cs0 t :: F) w := hw.recast tk (fun h => ⟨u, h⟩) (fun k hk => hk)
  exact OK.left (A := [_]) h2

theorem hole_self {k : IntKind} {L : List Int} {t : Nat} (h : t < L.length) : ∃ u, ints k L = (ints k L).set t u := by
  refine ⟨.int k (L.getD t 0), ?_⟩
  have := ints_get k L t h
  obtain ⟨h1, h2⟩ := List.getElem?_eq_some_iff.1 this
  rw [← h2, List.set_getElem_self]

theorem ints_set {k : IntKind} {L : List Int} {t : Nat} {x : Int} : (ints k L).set t (.int k x) = ints k (L.set t x) := by simp [ints, List.map_set]

theorem Yl.indexV {t e : TypeId} {x i : Operand} {k : IntKind} {z : Int} {j n cap size : Nat} {a : Addr} (hu : c.P.underlying t = some (.slice e)) (hsz : (c.P.info? e).map (·.size) = some size)
    (hx : ev env x = some (.slice (some a) n cap)) (hi : ev env i = some (.int k z)) (hz : z = (j : Int)) (hj : j < n) : Yl c env ds H ⟨dst, .indexAddr t x i, ty, pos, af, g⟩ (elemP (.slice (some a) n cap) j size) := fun a w ha hw => by
  subst hz
  cases hi' : c.P.info? e with
  | none => simp [hi'] at hsz
  | some i' =>
    have hs : i'.size = size := by simpa [hi'] using hsz
    simp [execOp, ha.ev hx, ha.ev hi, Instr.indexAt, asIntOf, run_underlying hu, hj, sizeOf, typeInfo, hi', hs, elemP]

theorem Yl.loadH {t : TypeId} {x : Operand} {v u : Value} {e j n s : Nat} {cs : List Value} (ho : isOne c.P t = true) (hx : ev env x = some (elemP v j 1)) (tk : Take1 H (holeR v e n cs s) F) (hj : cs[j]? = some u) (hne : s ≠ j) : Yl c env ds H ⟨dst, .load t x, ty, pos, af, g⟩ u := fun a w ha hw => by
  obtain ⟨u0, h⟩ := hw.get tk
  have hj' : (cs.set s u0)[j]? = some u := by rw [List.getElem?_set_ne hne]; exact hj
  have hr : Reads ⟨c.P, c.ro, c.n, w, fpL [ownR v e 1 n (cs.set s u0)]⟩ [ownR v e 1 n (cs.set s u0)] v 1 n (cs.set s u0) := Reads.of RdOf.own .head
  have hk : OK w (fpL [ownR v e 1 n (cs.set s u0)]) [ownR v e 1 n (cs.set s u0)] w := OK.one (Chg.refl _ _) h (fun k hk _ => ⟨_, List.mem_singleton.2 rfl, hk⟩) (fun k hk _ => ⟨_, List.mem_singleton.2 rfl, hk⟩)
  exact Yl.loadE (c := ⟨c.P, c.ro, c.n, w, fpL [ownR v e 1 n (cs.set s u0)]⟩) ho hx hr hj' a w ha hk

theorem WC.drawI {id : Nat} {l : List Oper} (Hs : List Res) (hm : c.P.follows .mixedOrders = true) (hd : noDefer l.toArray = true) (hs : Impl c H Hs)
    (h : WD c l.toArray Hs Q l.toArray.size (Array.replicate l.toArray.size false) env ds H) : WC c (.region id l.toArray true) Q env ds H :=
  ⟨fun a w ha hw => wpIn_draw hm hd (fun _ _ h => h.1) (wpAny_of_held _ _ _ _ (h.run a _ ha hw.drew (hs _ hw.drew)))⟩

theorem WO.stoI {i : Nat} {o : Oper} {H' : List Res} (hi : ops[i]? = some o) (hdst : o.dst = none) (hg : Gd ops env o.guard) (h : Sto c env ds H o H') (hs : Impl c H' Hs)
    (k : WD c ops Hs Q fuel (listed.setIfInBounds i true) env ds H') : WO c ops Hs Q fuel listed env ds H i := fun a w ha hw hS => by
  obtain ⟨w', h1, h2⟩ := h a w ha hw
  have hS' := hs _ h2
  unfold wpOp
  simp only [hi]
  rw [if_pos (hg.wanted ha)]
  refine .inl ?_
  unfold Oper.wp
  rw [h1]
  show OK c.w0 c.S Hs w' ∧ _
  rw [hdst]
  exact ⟨hS', k.run _ _ (ha.putNone _) h2 hS'⟩

theorem WO.callCI {i : Nat} {dd : Nat} {f : Operand} {xs : List Operand} {ts : Array TypeId} {fid : FuncId} {cap : List Value} {vs : List Value} {α : Type} {Φ : α → Prop} {v : α → Value} {B : α → List Res} {gg : Option (Nat × Bool)}
    (hi : ops[i]? = some ⟨some dd, .call { callee := .value f, args := xs.toArray, argTypes := ts }, ty, pos, af, gg⟩) (hg : Gd ops env gg)
    (hf : ev env f = some (.func (.func fid) #[] cap.toArray)) (hx : evs env xs = some vs) (he : ∀ args w, (callFunc fid args).run c.P w = .ok (.enter fid args) w)
    (tk : TakeL H A F) (h : ∀ w, OK c.w0 c.S (A ++ F) w → Fn c.P fid (vs ++ cap) A w Φ v B) (hn : Nat.blt dd c.n = true) (hs : ∀ x, Impl c (B x ++ F) Hs)
    (k : ∀ x, Φ x → WD c ops Hs Q fuel (listed.setIfInBounds i true) ((dd, v x) :: env) ds (B x ++ F)) : WO c ops Hs Q fuel listed env ds H i := fun a w ha hw hS => by
  unfold wpOp
  simp only [hi]
  rw [if_pos (hg.wanted (o := ⟨some dd, .call { callee := .value f, args := xs.toArray, argTypes := ts }, ty, pos, af, gg⟩) ha)]
  refine .inl ?_
  have e1 : (execOp a.eval ⟨some dd, .call { callee := .value f, args := xs.toArray, argTypes := ts }, ty, pos, af, gg⟩).run c.P w = .ok (.enter fid (vs ++ cap).toArray) w := by
    simp only [execOp, resolve, Deferred.ofValue, ha.ev hf, invoke, Sem.run_bind, Sem.run_pure, Result.andThen_ok, List.map_toArray, ha.evs hx, Array.empty_append, List.append_toArray, Array.append_empty]
    exact he _ w
  unfold Oper.wp
  rw [e1]
  refine Calls.mono (lift tk h w hw) ?_
  rintro e w' ⟨x, h1, rfl, h3⟩
  have hS' := hs x _ h3
  exact ⟨hS', (k x h1).run _ _ (ha.put hn _) h3 hS'⟩
end

/-! ### The rounds of a caller, as the iterator sees them -/

structure Guest where
  J : Nat → (Nat → Prop) → World → Prop
  W : World
  hJ : ∀ i T A B, J i T A → Chg (fun k => W.heap.size ≤ k ∧ ¬ T k) A B → J i T B

def gstR (g : Guest) (i : Nat) (T : Nat → Prop) : Res where
  fp := fun k => T k ∨ k < g.W.heap.size
  wr := T
  sub := fun _ h => .inl h
  ok := fun w => g.J i T w ∧ (∀ k, T k → k < w.heap.size) ∧ g.W.heap.size ≤ w.heap.size
  lt := fun w h k hk => by
    rcases hk with h1 | h1
    · exact h.2.1 k h1
    · exact Nat.lt_of_lt_of_le h1 h.2.2
  st := fun w w' D h hc hd => ⟨g.hJ _ _ _ _ h.1 (hc.mono (fun k _ hD => ⟨Nat.le_of_not_lt fun hlt => hd k (.inr hlt) hD, fun ht => hd k (.inl ht) hD⟩)), fun k hk => Nat.lt_of_lt_of_le (h.2.1 k hk) hc.size, Nat.le_trans h.2.2 hc.size⟩

structure Yields (P : Program) (g gx : Guest) (xs : List (Array Value)) (l : Nat) : Prop where
  run : ∀ i x T W1, xs[i]? = some x → g.J i T W1 → g.W.heap.size ≤ W1.heap.size → (∀ k, T k → k < W1.heap.size) → YieldAt (FW none) 0 P l x W1 fun e W' =>
    (e = .returned (.bool true) ∧ ∃ T', g.J (i + 1) T' W' ∧ Chg T W1 W' ∧ Adds T T' W1 W') ∨ (e = .returned (.bool false) ∧ ∃ T', gx.J i T' W' ∧ Chg T W1 W' ∧ Adds T T' W1 W')
  same : gx.W = g.W

section
variable {c : Cx} {Q : SQ} {env : Env} {ds : List Deferred} {H F : List Res} {ops : Array Oper} {rest : List Oper} {d : Nat} {ty : TypeId} {pos : String} {af : Array Edge}

theorem WL.yield {f : Operand} {xs : List Operand} {ts : Array TypeId} {l : Nat} {us : List Value} {g gx : Guest} {ys : List (Array Value)} {i : Nat} {T : Nat → Prop} (hy : Yields c.P g gx ys l)
    (hf : ev env f = some (.func (.yield l) #[] #[])) (hx : evs env xs = some us) (hi : ys[i]? = some us.toArray) (tk : Take1 H (gstR g i T) F) (hn : Nat.blt d c.n = true)
    (k : ∀ (b : Bool) T', WL c ops Q rest ((d, .bool b) :: env) ds (gstR (if b then g else gx) (if b then i + 1 else i) T' :: F)) :
    WL c ops Q (⟨some d, .call { callee := .value f, args := xs.toArray, argTypes := ts }, ty, pos, af, none⟩ :: rest) env ds H :=
  ⟨fun a w ha hw => wpListIn_plain rfl fun K hK => ⟨fun _ _ => trivial, by
    have hg := hw.get tk
    obtain ⟨fn, tmps, assign, body, hrun, hR⟩ := yieldAt_any (ro' := c.ro) (n' := 0 - 1) (hy.run i _ T w hi hg.1 hg.2.2 hg.2.1)
    rw [Oper.semAt_plain (FW c.ro) _ _ (by intro cl hc; cases hc)]
    have e1 : (execOp a.eval ⟨some d, .call { callee := .value f, args := xs.toArray, argTypes := ts }, ty, pos, af, none⟩).run c.P w = .ok (.round l fn tmps assign body) w := by
      simp only [execOp, resolve, Deferred.ofValue, ha.ev hf, invoke, Sem.run_bind, Sem.run_pure, Result.andThen_ok, List.map_toArray, ha.evs hx, Array.empty_append, List.append_toArray, Array.append_empty]
      exact hrun
    rw [e1]
    refine ⟨fun h => by simp at h, RoundIn.mono hR ?_⟩
    have key : ∀ (b : Bool) T' w', (if b then g else gx).J (if b then i + 1 else i) T' w' → Chg T w w' → Adds T T' w w' → K (a.put (some d) (.bool b)) w' := by
      intro b T' w' hJ hc hA
      refine hK _ _ ((k b T').run _ _ (ha.put hn _) ?_)
      have hW : (if b then g else gx).W = g.W := by cases b; exact hy.same; rfl
      refine hw.turnG tk hc ⟨hJ, fun q hq => ?_, by rw [hW]; exact Nat.le_trans hg.2.2 hc.size⟩ (fun q hq => ?_) (fun q hq => ?_)
      · rcases hA q hq with h | h
        · exact Nat.lt_of_lt_of_le (hg.2.1 q h) hc.size
        · exact h.2
      · rcases hA q hq with h | h
        · exact .inl h
        · exact .inr h.1
      · rcases hq with h | h
        · rcases hA q h with h | h
          · exact .inl (.inl h)
          · exact .inr h.1
        · rw [hW] at h; exact .inl (.inr h)
    rintro e w' (⟨rfl, T', h1, h2, h3⟩ | ⟨rfl, T', h1, h2, h3⟩)
    · exact key true T' w' h1 h2 h3
    · exact key false T' w' h1 h2 h3⟩⟩
end

/-! ### An iterator, as a resource -/

theorem Iter.later {P : Program} {gf : Nat} {lb : Array Value} {own : Nat → Prop} {xs : List (Array Value)} {w w' : World} {D : Nat → Prop} (h : Iter P gf lb own xs w) (hc : Chg D w w') (hd : ∀ k, own k → ¬ D k) : Iter P gf lb own xs w' :=
  fun l T0 J Jx W hW => h l T0 J Jx W ((hc.mono (fun k _ hk ho => hd k ho hk)).trans hW)

def itR (P : Program) (gf : Nat) (lb : List Value) (own : Nat → Prop) (xs : List (Array Value)) : Res where
  fp := own
  wr := noB
  sub := fun _ h => h.elim
  ok := fun w => Iter P gf lb.toArray own xs w ∧ ∀ k, own k → k < w.heap.size
  lt := fun w h k hk => h.2 k hk
  st := fun w w' D h hc hd => ⟨h.1.later hc hd, fun k hk => Nat.lt_of_lt_of_le (h.2 k hk) hc.size⟩

theorem iter_of {P : Program} {gf : FuncId} {fn : Func} {k : Code} {n : Nat} {lb : List Value} {xs : List (Array Value)} {A : List Res} {w0 : World} (hf : P.funcs[gf]? = some fn) (hb : fn.body = some k) (hn : fn.ntmps = n) (hl : Nat.ble (lb.length + 1) n = true)
    (hA : OK w0 (fpL A) A w0) (hw : ∀ r ∈ A, ∀ k, ¬ r.wr k)
    (h : ∀ l W g gx T0, Yields P g gx xs l → WC ⟨P, none, n, W, fpL (gstR g 0 T0 :: A)⟩ k (retS ⟨P, none, n, W, fpL (gstR g 0 T0 :: A)⟩ fn (fun e w' => (∃ v, e = .returned v) ∧ ((∃ T, g.J xs.length T w') ∨ ∃ i T, i < xs.length ∧ gx.J i T w'))) (args0 0 (.func (.yield l) #[] #[] :: lb)) [] (gstR g 0 T0 :: A)) :
    Iter P gf lb.toArray (fpL A).rd xs w0 := by
  intro l T0 J Jx W hW hown hT0 hJ hJx hY h00
  have hy : Yields P ⟨J, W, hJ⟩ ⟨Jx, W, hJx⟩ xs l := ⟨hY, rfl⟩
  have hk := h l W ⟨J, W, hJ⟩ ⟨Jx, W, hJx⟩ T0 hy
  have hst : OK W (fpL (gstR ⟨J, W, hJ⟩ 0 T0 :: A)) (gstR ⟨J, W, hJ⟩ 0 T0 :: A) W := by
    refine ⟨Chg.refl _ _, ?_, fun r hr k hk _ => ⟨r, hr, hk⟩, fun r hr k hk _ => ⟨r, hr, hk⟩, List.pairwise_cons.2 ⟨fun s hs => ⟨fun k a b => (hT0 k a).2 ⟨s, hs, b⟩, fun k a b => hw s hs k b⟩, hA.dis⟩⟩
    intro r hr
    rcases List.mem_cons.1 hr with rfl | hr
    · exact ⟨h00, fun k hk => (hT0 k hk).1, Nat.le_refl _⟩
    · exact r.st w0 W _ (hA.all r hr) hW (fun k hk hn => hn ⟨r, hr, hk⟩)
  have := enterS (P := P) (f := gf) (w := W) (vs := .func (.yield l) #[] #[] :: lb) hf hb hn (by simpa using hl) hst hk
  have e : (#[Value.func (.yield l) #[] #[]] ++ lb.toArray) = (.func (.yield l) #[] #[] :: lb).toArray := by simp
  rw [e]
  exact callsIn_fw this

/-- The end of an iterator's walk: all were handed over, or the caller has said no more. -/
theorem itEnd {c : Cx} {fn : Func} {e : Exit} {env : Env} {H F : List Res} {g gx : Guest} {n : Nat} {T : Nat → Prop} (he : e = .normal ∨ e = .ret) (hr : fn.results = #[]) (tk : Take1 H (gstR g n T) F) :
    retS c fn (fun e w' => (∃ v, e = .returned v) ∧ ((∃ T, g.J n T w') ∨ ∃ i T, i < n ∧ gx.J i T w')) e env [] H :=
  ret0 he hr fun w hw => ⟨⟨_, rfl⟩, .inl ⟨T, (hw.get tk).1⟩⟩
theorem itStop {c : Cx} {fn : Func} {e : Exit} {env : Env} {H F : List Res} {g gx : Guest} {n i : Nat} {T : Nat → Prop} (he : e = .normal ∨ e = .ret) (hr : fn.results = #[]) (tk : Take1 H (gstR gx i T) F) (hi : i < n) :
    retS c fn (fun e w' => (∃ v, e = .returned v) ∧ ((∃ T, g.J n T w') ∨ ∃ i T, i < n ∧ gx.J i T w')) e env [] H :=
  ret0 he hr fun w hw => ⟨⟨_, rfl⟩, .inr ⟨i, T, hi, (hw.get tk).1⟩⟩

/-- What an iterator leans on, given up for the iterator. -/
theorem OK.toIter {w0 : World} {S : Pm} {A F : List Res} {w : World} {P : Program} {gf : Nat} {lb : List Value} {own : Nat → Prop} {xs : List (Array Value)} (h : OK w0 S (A ++ F) w) (hi : Iter P gf lb.toArray own xs w) (ho : ∀ k, own k → (fpL A).rd k) : OK w0 S (itR P gf lb own xs :: F) w := by
  refine OK.upd (B := [itR P gf lb own xs]) h (OK.one (Chg.refl _ _) ⟨hi, fun k hk => ?_⟩ (fun k hk _ => hk.elim) (fun k hk _ => ho k hk))
  obtain ⟨r, hr, hk⟩ := ho k hk
  exact r.lt w (h.all r (List.mem_append_left _ hr)) k hk

/-! ### The loop -/

def dM (D : Nat) : Deferred := { target := .collected D, args := #[] }

def rndS (Q : SQ) (env : Env) (ds : List Deferred) (F : List Res) (N : List Res → Prop) : SQ
  | .normal => fun _ _ H' => ∃ H1 F1, TakeL H' H1 F1 ∧ N H1
  | .ret => fun _ _ H' => ∃ H1 F1, TakeL H' H1 F1 ∧ ∀ D, Q .ret env (dM D :: ds) (objR D (.deferred (some [])) :: (H1 ++ F))
  | .exit id => fun _ _ H' => ∃ H1 F1, TakeL H' H1 F1 ∧ ∀ D, Q (.exit id) env (dM D :: ds) (objR D (.deferred (some [])) :: (H1 ++ F))
  | _ => fun _ _ _ => False

def psEnv (env : Env) : List Tmp → List Value → Env
  | p :: ps, v :: vs => psEnv ((p, v) :: env) ps vs
  | _, _ => env

theorem Has.ps {n : Nat} : ∀ (ps : List Tmp) (vs : List Value) (env : Env) (a : Act), (ps.all fun p => Nat.blt p n) = true → Has env n [] a → Has (psEnv env ps vs) n [] { tmps := (ps.zip vs).foldl (fun t (p, v) => t.setIfInBounds p v) a.tmps, defers := [] }
  | [], vs, env, a, _, h => by cases vs <;> exact ⟨h.1, rfl, h.2.2⟩
  | p :: ps, [], env, a, _, h => ⟨h.1, rfl, h.2.2⟩
  | p :: ps, v :: vs, env, a, hp, h => by
    simp only [List.all_cons, Bool.and_eq_true] at hp
    exact Has.ps ps vs ((p, v) :: env) (a.put (some p) v) hp.2 (h.put hp.1 v)

def fpT (B : Nat) (R : List Res) : Nat → Prop := fun k => (fpL R).wr k ∨ ((fpL R).rd k ∧ B ≤ k)

section
variable {P : Program} {n : Nat} {w0 : World} {S : Pm} {Q : SQ} {env : Env} {ds : List Deferred} {H H2 F : List Res}

theorem WC.range {g : Operand} {ps : Array Tmp} {assign body : Code} {α : Type} {gf : Nat} {lb : List Value} {own : Nat → Prop} {xs : List (Array Value)}
    (R : Nat → α → List Res) (okp : Nat → α → Prop) (s0 : α)
    (hg : ev env g = some (.func (.func gf) #[] lb.toArray)) (eg : ∀ args w, (callFunc gf args).run P w = .ok (.enter gf args) w) (hps : ∀ x ∈ xs, x.size = ps.size) (hpn : (ps.toList.all fun p => Nat.blt p n) = true)
    (tk : Take1 H (itR P gf lb own xs) H2) (h0 : okp 0 s0) (tk2 : TakeL H2 (R 0 s0) F)
    (hb : ∀ l i x s, xs[i]? = some x → okp i s → ∀ W, WC ⟨P, some l, n, W, fpL (R i s)⟩ assign (thenS (fun env' ds' H' => ∀ W2, WC ⟨P, some l, n, W2, fpL H'⟩ body (rndS Q env ds (itR P gf lb own xs :: F) (fun H1 => ∃ s', okp (i + 1) s' ∧ H1 = R (i + 1) s')) env' ds' H') (fun _ _ _ _ => False)) (psEnv env ps.toList x.toList) [] (R i s))
    (hd : ∀ s D, okp xs.length s → Q .normal env (dM D :: ds) (objR D (.deferred (some [])) :: (R xs.length s ++ (itR P gf lb own xs :: F)))) :
    WC ⟨P, none, n, w0, S⟩ (.rangeFunc g ps assign body) Q env ds H := by
  refine ⟨fun a w ha hw => ?_⟩
  obtain ⟨FF, hFF⟩ : ∃ FF, FF = itR P gf lb own xs :: F := ⟨_, rfl⟩
  have hw1 : OK w0 S (itR P gf lb own xs :: H2) w := hw.perm tk.perm
  have hit : Iter P gf lb.toArray own xs w ∧ ∀ k, own k → k < w.heap.size := hw1.all _ (List.mem_cons_self ..)
  have hw2 : OK w0 S (R 0 s0 ++ FF) w := by
    rw [hFF]
    exact hw.perm (tk.perm.trans ((List.Perm.cons _ tk2.perm).trans List.perm_middle.symm))
  have hlt : ∀ r ∈ FF, ∀ k, r.fp k → k < w.heap.size := fun r hr k hk => r.lt w (hw2.all r (List.mem_append_right _ hr)) k hk
  have hsz0 := hw.chg.size
  have stab : ∀ (H1 : List Res) (A B : World), OK w0 S (H1 ++ FF) A → Chg (fun k => w.heap.size ≤ k ∧ ¬ fpT w.heap.size H1 k) A B → OK w0 S (H1 ++ FF) B := by
    intro H1 A B h hc
    refine h.chgd hc (fun k hk hD => ?_) (fun r hr k hk hD => ?_)
    · have hD1 := hD.1
      have : w0.heap.size ≤ w.heap.size := hsz0
      omega
    · rcases List.mem_append.1 hr with hr | hr
      · exact hD.2 (.inr ⟨⟨r, hr, hk⟩, hD.1⟩)
      · have := hlt r hr k hk
        have := hD.1
        omega
  have addD : ∀ (H1 : List Res) (D : Nat) (W : World), OK w0 S (H1 ++ FF) W → w.heap.size ≤ D → W.heap[D]? = some (.deferred (some [])) → ¬ fpT w.heap.size H1 D → OK w0 S (objR D (.deferred (some [])) :: (H1 ++ FF)) W := by
    intro H1 D W h hD hdef hT
    refine h.addR hdef (fun k hk => by cases hk; have : w0.heap.size ≤ w.heap.size := hsz0; omega) (fun s hs k hk hsk => ?_)
    cases hk
    rcases List.mem_append.1 hs with hs | hs
    · exact hT (.inr ⟨⟨s, hs, hsk⟩, hD⟩)
    · have := hlt s hs D hsk
      omega
  refine wpIn_range (P := P) (own := own) (xs := xs) (w0 := w) hit.1 (fpT w.heap.size (R 0 s0))
    (fun i T W => ∃ s, okp i s ∧ OK w0 S (R i s ++ FF) W ∧ T = fpT w.heap.size (R i s) ∧ w.heap.size ≤ W.heap.size)
    (fun cd i T W => ∃ e H1, ((cd = .ret ∧ e = .ret) ∨ ∃ id, cd = .exit id ∧ e = .exit id) ∧ OK w0 S (H1 ++ FF) W ∧ T = fpT w.heap.size H1 ∧ w.heap.size ≤ W.heap.size ∧ ∀ D, Q e env (dM D :: ds) (objR D (.deferred (some [])) :: (H1 ++ FF)))
    (ha.ev hg) eg hps (Chg.refl _ _) hit.2 ?_ ?_ ?_ ⟨s0, h0, hw2, rfl, Nat.le_refl _⟩ ?_ ?_ ?_
  · intro k hk
    rcases hk with ⟨r, hr, hk⟩ | ⟨⟨r, hr, hk⟩, hB⟩
    · refine ⟨r.lt w (hw2.all r (List.mem_append_left _ hr)) k (r.sub k hk), fun ho => ?_⟩
      exact ((List.pairwise_append.1 hw2.dis).2.2 r hr _ (by rw [hFF]; exact List.mem_cons_self ..)).1 k hk ho
    · have := r.lt w (hw2.all r (List.mem_append_left _ hr)) k hk
      omega
  · rintro i T A B ⟨s, h1, h2, rfl, h3⟩ hc
    exact ⟨s, h1, stab _ _ _ h2 hc, rfl, Nat.le_trans h3 hc.size⟩
  · rintro cd i T A B ⟨e, H1, h1, h2, rfl, h3, h4⟩ hc
    exact ⟨e, H1, h1, stab _ _ _ h2 hc, rfl, Nat.le_trans h3 hc.size, h4⟩
  · rintro l i x T W hx ⟨s, hs, hok, rfl, hsz⟩ hBl hTl hr hTlt
    obtain ⟨rec, hrec⟩ := hr
    have hlW := lt_of_heap hrec
    have hps' := Has.ps (n := n) ps.toList x.toList env { a with defers := [] } hpn ⟨ha.1, rfl, ha.2.2⟩
    have e0 : (ps.zip x).foldl (fun t (p, v) => t.setIfInBounds p v) a.tmps = (ps.toList.zip x.toList).foldl (fun t (p, v) => t.setIfInBounds p v) a.tmps := by
      rw [← Array.foldl_toList, Array.toList_zip]
    rw [e0]
    refine Go.wpIn_mono ((hb l i x s hx hs W).run _ W hps' hok.left.here) ?_
    rintro e a1 W1 ⟨_, env', ds', H', g1, g2, g3⟩
    cases e with
    | normal =>
      refine ⟨g2.chg.mono (fun k _ hk => .inl hk), fun W2 hc hs2 hr2 => ?_⟩
      have hfl : ∀ r ∈ H', ∀ k, r.fp k → ¬ oneB l k := by
        intro r hr k hk he
        cases he
        exact hTl (.inr ⟨g2.locF r hr _ hk hlW, hBl⟩)
      have ok2 : OK W2 (fpL H') H' W2 := ⟨Chg.refl _ _, fun r hr => r.st W1 W2 _ (g2.all r hr) hc (hfl r hr), fun r hr k hk _ => ⟨r, hr, hk⟩, fun r hr k hk _ => ⟨r, hr, hk⟩, g2.dis⟩
      have big2 : OK w0 S (H' ++ FF) W2 := by
        refine (hok.upd g2).chgd hc (fun k hk he => ?_) (fun r hr k hk he => ?_)
        · cases he
          have : w0.heap.size ≤ w.heap.size := hsz0
          omega
        · rcases List.mem_append.1 hr with hr | hr
          · exact hfl r hr k hk he
          · cases he
            have := hlt r hr _ hk
            omega
      refine Go.wpIn_mono ((g3 W2).run a1 W2 g1 ok2) ?_
      rintro e a3 W3 ⟨_, env3, ds3, H3, k1, k2, k3⟩
      have fin : ∀ H1, OK W2 (fpL H') H1 W3 → OK w0 S (H1 ++ FF) W3 ∧ w.heap.size ≤ W3.heap.size ∧ Chg (fun k => fpT w.heap.size (R i s) k ∨ W.heap.size ≤ k) W2 W3 ∧ Adds (fpT w.heap.size (R i s)) (fpT w.heap.size H1) W W3 := by
        intro H1 h
        have hs12 : W.heap.size ≤ W1.heap.size := g2.chg.size
        have hs23 : W2.heap.size ≤ W3.heap.size := h.chg.size
        have toR : ∀ k, (fpL H').wr k → fpT w.heap.size (R i s) k ∨ W.heap.size ≤ k := by
          rintro k ⟨r, hr, hk⟩
          by_cases hlt' : k < W.heap.size
          · exact .inl (.inl (g2.loc r hr k hk hlt'))
          · exact .inr (by omega)
        refine ⟨big2.upd h, by omega, h.chg.mono (fun k _ hk => toR k hk), ?_⟩
        rintro k (⟨r, hr, hk⟩ | ⟨⟨r, hr, hk⟩, hB⟩)
        · have hk3 := r.lt W3 (h.all r hr) k (r.sub k hk)
          by_cases hlt' : k < W.heap.size
          · rcases toR k (h.loc r hr k hk (by omega)) with h1 | h1
            · exact .inl h1
            · omega
          · exact .inr ⟨by omega, hk3⟩
        · have hk3 := r.lt W3 (h.all r hr) k hk
          by_cases hlt' : k < W.heap.size
          · obtain ⟨r2, hr2, hk2⟩ := h.locF r hr k hk (by omega)
            exact .inl (.inr ⟨g2.locF r2 hr2 k hk2 hlt', hB⟩)
          · exact .inr ⟨by omega, hk3⟩
      cases e with
      | normal =>
        obtain ⟨H1, F1, ht, s', hs', rfl⟩ := k3
        obtain ⟨f1, f2, f3, f4⟩ := fin _ (k2.perm ht.perm).left
        exact ⟨_, ⟨s', hs', f1, rfl, f2⟩, f3, f4⟩
      | ret =>
        obtain ⟨H1, F1, ht, hq⟩ := k3
        obtain ⟨f1, f2, f3, f4⟩ := fin _ (k2.perm ht.perm).left
        rw [← hFF] at hq
        exact ⟨_, ⟨.ret, H1, .inl ⟨rfl, rfl⟩, f1, rfl, f2, hq⟩, f3, f4⟩
      | exit id =>
        obtain ⟨H1, F1, ht, hq⟩ := k3
        obtain ⟨f1, f2, f3, f4⟩ := fin _ (k2.perm ht.perm).left
        rw [← hFF] at hq
        exact ⟨_, ⟨.exit id, H1, .inr ⟨id, rfl, rfl⟩, f1, rfl, f2, hq⟩, f3, f4⟩
      | goto t => exact k3.elim
      | panic ch => exact k3.elim
      | outgrown => exact k3.elim
    | exit i => exact g3.elim
    | goto l => exact g3.elim
    | ret => exact g3.elim
    | panic ch => exact g3.elim
    | outgrown => exact g3.elim
  · rintro D T W hD hdef hTD ⟨s, hs, hok, rfl, hsz⟩
    refine ⟨trivial, env, dM D :: ds, _, ⟨ha.1, by rw [ha.2.1]; rfl, ha.2.2⟩, addD _ D W hok hD hdef hTD, ?_⟩
    rw [hFF]
    exact hd s D hs
  · rintro D cd i T W hD hdef hTD hi ⟨e, H1, hcd, hok, rfl, hsz, hq⟩
    have hup : up ⟨P, none, n, w0, S⟩ Q e { a with defers := { target := .collected D, args := #[] } :: a.defers } W := by
      refine ⟨?_, env, dM D :: ds, _, ⟨ha.1, by rw [ha.2.1]; rfl, ha.2.2⟩, addD _ D W hok hD hdef hTD, hq D⟩
      rcases hcd with ⟨_, rfl⟩ | ⟨id, _, rfl⟩ <;> trivial
    rcases hcd with ⟨rfl, rfl⟩ | ⟨id, rfl, rfl⟩
    · exact wpIn_ret hup
    · exact wpIn_exit hup
end

/-! ### Functions that hold such loops -/

inductive Marks : List Deferred → List Res → List Res → Prop
  | nil {H : List Res} : Marks [] H H
  | cons {D : Nat} {ds : List Deferred} {H F H' : List Res} : Take1 H (objR D (.deferred (some []))) F → Marks ds F H' → Marks (dM D :: ds) H H'

def retM (c : Cx) (fn : Func) (R : Ending → World → Prop) : SQ := fun e env ds H => ∃ H', Marks ds H H' ∧ retS c fn R e env [] H'

theorem retM.of {c : Cx} {fn : Func} {R : Ending → World → Prop} {e : Exit} {env : Env} {ds : List Deferred} {H H' : List Res} (m : Marks ds H H') (h : retS c fn R e env [] H') : retM c fn R e env ds H := ⟨H', m, h⟩

theorem leaveMarks {c : Cx} {fn : Func} {R : Ending → World → Prop} {tmps : Array Value} {ds : List Deferred} {H H' : List Res} (hm : Marks ds H H') (h : ∀ w, OK c.w0 c.S H' w → ∃ v, (results fn tmps).run c.P w = .ok v w ∧ R (.returned v) w) : ∀ w, OK c.w0 c.S H w → LeavesInM (FW none) 0 c.P fn tmps R ds .returning w := by
  induction hm with
  | nil => intro w hw; obtain ⟨v, h1, h2⟩ := h w hw; exact leave_none h1 h2
  | @cons D ds H F H' t _ ih =>
    intro w hw
    have hD : w.heap[D]? = some (.deferred (some [])) := hw.get t
    refine leave_mark hD (ih h _ ?_)
    have := hw.turn t (r' := objR D (.deferred none)) (Chg.putObj w D _ (fun _ => rfl)) (World.putObj_heap_same (lt_of_heap hD)) (fun k hk => .inl hk)
    exact OK.drop (A := [_]) this

theorem enterM {P : Program} {f : FuncId} {fn : Func} {k : Code} {vs : List Value} {A : List Res} {w : World} {n : Nat} {α : Type} {Φ : α → Prop} {v : α → Value} {B : α → List Res} (hf : P.funcs[f]? = some fn) (hb : fn.body = some k) (hn : fn.ntmps = n) (hl : Nat.ble vs.length n = true) (hw : OK w (fpL A) A w)
    (h : WC ⟨P, none, n, w, fpL A⟩ k (retM ⟨P, none, n, w, fpL A⟩ fn (fun e w' => ∃ x, Φ x ∧ e = .returned (v x) ∧ OK w (fpL A) (B x) w')) (args0 0 vs) [] A) : Fn P f vs A w Φ v B := by
  replace hl := Nat.le_of_ble_eq_true hl
  refine calls_of_fw (ro := none) (n := 0) ?_
  refine callsIn_of_wp_marks hf hb trivial (Go.wpIn_mono (h.run _ w ?_ hw) ?_) rfl
  · refine ⟨?_, rfl, ?_⟩
    · simp [hn]; omega
    · intro t v ht
      have := args0_get ht
      have hlt : t < vs.length := by
        have := (List.getElem?_eq_some_iff.1 this.2).1; omega
      rw [Array.getElem?_append_left (by simpa using hlt)]
      simpa using this.2
  · rintro e a w' ⟨_, env, ds, H', h1, h2, H'', hm, he, hds, h3⟩
    have := leaveMarks (c := ⟨P, none, n, w, fpL A⟩) (fn := fn) (R := fun e w' => ∃ x, Φ x ∧ e = .returned (v x) ∧ OK w (fpL A) (B x) w') (tmps := a.tmps) hm (fun w'' hw'' => h3 a.tmps w'' h1.2.2 hw'') w' h2
    rcases he with rfl | rfl
    · show LeavesInM _ _ _ _ _ _ a.defers _ _
      rw [h1.2.1]; exact this
    · show LeavesInM _ _ _ _ _ _ a.defers _ _
      rw [h1.2.1]; exact this

theorem i64_quo {x y : Int} (h : 0 ≤ x ∧ x ≤ 9223372036854775807) (hy : 0 < y) : IntKind.i64.wrap (x.tdiv y) = x / y := by
  rw [Int.tdiv_eq_ediv_of_nonneg h.1]
  have h1 : 0 ≤ x / y := Int.ediv_nonneg h.1 (by omega)
  have h2 : x / y ≤ x := Int.ediv_le_self _ h.1
  exact IntWalk.i64_in _ (by omega)
theorem i64_rem {x y : Int} (h : 0 ≤ x) : x.tmod y = x % y := Int.tmod_eq_emod_of_nonneg h

/-! ### For the frames -/

theorem wf_u8 {n : Int} (h : (Lit.int .u8 n).wf = true) : 0 ≤ n ∧ n < 256 := by
  rw [Lit.wf_int_iff] at h
  have e1 : IntKind.u8.min = 0 := by decide
  have e2 : IntKind.u8.max = 255 := by decide
  rw [e1, e2] at h
  omega
theorem OK.below {A B : List Res} {w w' : World} (h : OK w (fpL A) B w') (hw : ∀ r ∈ A, ∀ k, ¬ r.wr k) : Below w.heap.size w w' :=
  h.chg.below (Nat.le_refl _) (fun k _ ⟨r, hr, hk⟩ => absurd hk (hw r hr k))

end Go.Proofs.YtcplbkbimpiioaaGreatDoor
