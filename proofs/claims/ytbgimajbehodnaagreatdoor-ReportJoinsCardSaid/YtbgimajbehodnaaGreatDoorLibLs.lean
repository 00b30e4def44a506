/- A region that draws and whose last operation, a store, waits for all the others: what is read need not hold behind it. General lemmas of this claim's own, about no program in particular. -/
import Derived.Test.YtbgimajbehodnaaGreatDoorLibQ
namespace Go.Proofs.YtbgimajbehodnaaGreatDoor
open Go Go.RowKit
section
variable {P : Program} {md : Region.Mode} {ops : Array Oper} {Q Q' : Exit → Act → World → Prop}
/-- Each of the first n operations is waited for by a later one. -/
def backOk (md : Region.Mode) (ops : Array Oper) (n : Nat) : Bool :=
  (List.range (n + 1)).all fun k => ((ops[k]?).map fun o => o.after.all fun e => !Region.binds md e || Nat.blt e.on k).getD false
theorem backOk_spec {n : Nat} (h : backOk md ops n = true) {k : Nat} (hk : k ≤ n) : ∃ o, ops[k]? = some o ∧ ∀ e ∈ o.after, Region.binds md e = true → e.on < k := by
  unfold backOk at h
  have h2 := List.all_eq_true.1 h k (List.mem_range.2 (by omega))
  cases ho : ops[k]? with
  | none => rw [ho] at h2; cases h2
  | some o =>
    rw [ho] at h2
    simp only [Option.map_some, Option.getD_some] at h2
    refine ⟨o, rfl, fun e he hb => ?_⟩
    have h3 := Array.all_eq_true_iff_forall_mem.1 h2 e he
    rw [hb, Bool.not_true, Bool.false_or] at h3
    have : Nat.ble (e.on + 1) k = true := h3
    exact Nat.le_of_ble_eq_true this
def lastOk (md : Region.Mode) (ops : Array Oper) (n : Nat) : Bool :=
  (List.range n).all fun k => (List.range (n + 1)).any fun c => Nat.blt k c && ((ops[c]?).map fun o => o.after.any fun e => Region.binds md e && Nat.beq e.on k).getD false
theorem lastOk_spec {n : Nat} (h : lastOk md ops n = true) {k : Nat} (hk : k < n) : ∃ c o e, k < c ∧ c ≤ n ∧ ops[c]? = some o ∧ e ∈ o.after ∧ Region.binds md e = true ∧ e.on = k := by
  unfold lastOk at h
  obtain ⟨c, hc, h2⟩ := List.any_eq_true.1 (List.all_eq_true.1 h k (List.mem_range.2 hk))
  rw [Bool.and_eq_true] at h2
  obtain ⟨h3, h4⟩ := h2
  cases ho : ops[c]? with
  | none => rw [ho] at h4; cases h4
  | some o =>
    rw [ho] at h4
    simp only [Option.map_some, Option.getD_some] at h4
    obtain ⟨i, hi, h5⟩ := Array.any_eq_true.1 h4
    rw [Bool.and_eq_true] at h5
    refine ⟨c, o, o.after[i], ?_, ?_, ho, Array.getElem_mem hi, h5.1, Nat.eq_of_beq_eq_true h5.2⟩
    · have : Nat.ble (k + 1) c = true := h3
      exact Nat.le_of_ble_eq_true this
    · have := List.mem_range.1 hc
      omega
/-- What came up came up behind what it waits for. -/
def ClosedL (md : Region.Mode) (ops : Array Oper) (listed : Array Bool) : Prop := ∀ (k : Nat) o, ops[k]? = some o → listed.getD k false = true → ∀ e ∈ o.after, Region.binds md e = true → listed.getD e.on false = true
theorem all_listed {o : Oper} {listed : Array Bool} (hok : lastOk md (ops.push o) ops.size = true) (hcl : ClosedL md ops listed) (hr : ∀ e ∈ o.after, Region.binds md e = true → listed.getD e.on false = true) :
    ∀ m k, ops.size - k ≤ m → k < ops.size → listed.getD k false = true
  | 0, k, h, hk => by omega
  | m + 1, k, h, hk => by
    obtain ⟨c, oc, e, h1, h2, h3, h4, h5, h6⟩ := lastOk_spec hok hk
    by_cases hc : c = ops.size
    · subst hc
      rw [Array.getElem?_push_size] at h3
      cases h3
      rw [← h6]
      exact hr e h4 h5
    · have hcl' : c < ops.size := by omega
      have h3' : ops[c]? = some oc := by
        rw [Array.getElem?_push_lt hcl'] at h3
        rw [Array.getElem?_eq_getElem hcl']
        exact h3
      rw [← h6]
      exact hcl c oc h3' (all_listed hok hcl hr m c (by omega) hcl') e h4 h5
theorem upon_to {o : Oper} {a : Act} {w : World} {K K' : Act → World → Prop} (hp : ∀ c a w, Q' (.panic c) a w → Q (.panic c) a w) (ho : LetsOut Q' → LetsOut Q) (hK : ∀ a w, K a w → K' a w) (h : o.wp P a w K Q') : o.wp P a w K' Q := by
  unfold Oper.wp at *
  generalize (execOp a.eval o).run P w = r at *
  cases r with
  | ok n w' =>
    cases n <;> simp only [Oper.upon] at h ⊢
    case value u => exact hK _ _ h
    case skip => exact hK _ _ h
    case defer d => exact hK _ _ h
    case enter f args =>
      refine Calls.mono h fun e w'' he => ?_
      cases e with
      | returned u => exact hK _ _ he
      | panicked c => exact hp _ _ _ he
      | outgrown => exact ho he
    case row row args => exact Rows.mono h fun u w'' he => hK _ _ he
  | halt x w' =>
    cases x <;> simp only [Oper.upon] at h ⊢
    case panic u => exact hp _ _ _ h
theorem yielded_push {o : Oper} (hd : o.dst = none) (tmps : Array Value) (j : Nat) : yielded (ops.push o) tmps j = yielded ops tmps j := by
  unfold yielded
  by_cases hj : j < ops.size
  · rw [Array.getElem?_push_lt hj, Array.getElem?_eq_getElem hj]
  · by_cases he : j = ops.size
    · subst he
      rw [Array.getElem?_push_size, Array.getElem?_eq_none (Nat.le_refl _)]
      simp [hd]
    · rw [Array.getElem?_eq_none (by simp; omega), Array.getElem?_eq_none (by omega)]
theorem getD_push_false {listed : Array Bool} (j : Nat) : (listed.push false).getD j false = listed.getD j false := by
  simp only [Array.getD_eq_getD_getElem?]
  by_cases hj : j < listed.size
  · rw [Array.getElem?_push_lt hj, Array.getElem?_eq_getElem hj]
  · by_cases he : j = listed.size
    · subst he
      rw [Array.getElem?_push_size, Array.getElem?_eq_none (Nat.le_refl _)]; rfl
    · rw [Array.getElem?_eq_none (by simp; omega), Array.getElem?_eq_none (by omega)]
theorem wpAny_last {o : Oper} (hd : o.dst = none) (hok : lastOk md (ops.push o) ops.size = true) (hbk : backOk md (ops.push o) ops.size = true)
    (hn : ∀ a w, Q' .normal a w → wpOp P (ops.push o) Q ops.size (fun a w => Q .normal a w) a w) (hp : ∀ c a w, Q' (.panic c) a w → Q (.panic c) a w) (ho : LetsOut Q' → LetsOut Q) :
    ∀ (fuel : Nat) (listed : Array Bool) (a : Act) (w : World), listed.size = ops.size → ClosedL md ops listed → wpAny P md ops Q' fuel listed a w → wpAny P md (ops.push o) Q (fuel + 1) (listed.push false) a w := by
  have ready_lt : ∀ (listed : Array Bool) i, listed.size = ops.size → i ∈ Region.ready md (ops.push o) (listed.push false) → i ≠ ops.size → i ∈ Region.ready md ops listed := by
    intro listed i hs hi hne
    obtain ⟨h0, oi, h1, h2⟩ := mem_ready.1 hi
    have hlt : i < ops.size := by
      have := (Array.getElem?_eq_some_iff.1 h1).1
      rw [Array.size_push] at this
      omega
    refine mem_ready.2 ⟨?_, oi, ?_, fun e he hb => by have := h2 e he hb; rwa [getD_push_false] at this⟩
    · simp only [Array.getD_eq_getD_getElem?] at h0 ⊢
      rwa [Array.getElem?_push_lt (by omega : i < listed.size), ← Array.getElem?_eq_getElem] at h0
    · rwa [Array.getElem?_push_lt hlt, ← Array.getElem?_eq_getElem] at h1
  have ready_gt : ∀ (listed : Array Bool) i, listed.size = ops.size → i ∈ Region.ready md ops listed → i ∈ Region.ready md (ops.push o) (listed.push false) := by
    intro listed i hs hi
    obtain ⟨h0, oi, h1, h2⟩ := mem_ready.1 hi
    have hlt : i < ops.size := (Array.getElem?_eq_some_iff.1 h1).1
    refine mem_ready.2 ⟨?_, oi, ?_, fun e he hb => by rw [getD_push_false]; exact h2 e he hb⟩
    · simp only [Array.getD_eq_getD_getElem?] at h0 ⊢
      rwa [Array.getElem?_push_lt (by omega : i < listed.size), ← Array.getElem?_eq_getElem]
    · rwa [Array.getElem?_push_lt hlt, ← Array.getElem?_eq_getElem]
  have last_ready : ∀ (listed : Array Bool), listed.size = ops.size → ClosedL md ops listed → ops.size ∈ Region.ready md (ops.push o) (listed.push false) → ∀ k, k < ops.size → listed.getD k false = true := by
    intro listed hs hcl hi k hk
    obtain ⟨h0, oi, h1, h2⟩ := mem_ready.1 hi
    rw [Array.getElem?_push_size] at h1
    cases h1
    exact all_listed hok hcl (fun e he hb => by have := h2 e he hb; rwa [getD_push_false] at this) _ k (Nat.le_refl _) hk
  have none_ready : ∀ (listed : Array Bool), (∀ k, k < ops.size → listed.getD k false = true) → Region.ready md ops listed = [] := by
    intro listed h
    refine List.eq_nil_iff_forall_not_mem.2 fun i hi => ?_
    obtain ⟨h0, oi, h1, h2⟩ := mem_ready.1 hi
    have hlt : i < ops.size := (Array.getElem?_eq_some_iff.1 h1).1
    have := h i hlt
    simp only [Array.getD_eq_getD_getElem?] at this h0
    cases hh : listed[i]? with
    | none => rw [hh] at this; cases this
    | some b => rw [hh] at this h0; simp at this h0; rw [this] at h0; cases h0
  have none_ready' : ∀ (listed : Array Bool), listed.size = ops.size → (∀ k, k < ops.size → listed.getD k false = true) → Region.ready md (ops.push o) ((listed.push false).setIfInBounds ops.size true) = [] := by
    intro listed hs h
    refine List.eq_nil_iff_forall_not_mem.2 fun i hi => ?_
    obtain ⟨h0, oi, h1, h2⟩ := mem_ready.1 hi
    have hlt : i < ops.size + 1 := by
      have := (Array.getElem?_eq_some_iff.1 h1).1
      rwa [Array.size_push] at this
    by_cases he : i = ops.size
    · subst he
      simp [Array.getD_eq_getD_getElem?, Array.getElem?_setIfInBounds, hs] at h0
    · rw [getD_set_ne true (Ne.symm he)] at h0
      have hk := h i (by omega)
      simp only [Array.getD_eq_getD_getElem?] at hk h0
      rw [Array.getElem?_push_lt (by omega : i < listed.size), ← Array.getElem?_eq_getElem] at h0
      cases hh : listed[i]? with
      | none => rw [hh] at hk; cases hk
      | some b => rw [hh] at hk h0; simp at hk h0; rw [hk] at h0; cases h0
  have fin : ∀ (fuel : Nat) (listed : Array Bool) (a : Act) (w : World), Region.ready md (ops.push o) listed = [] → Q .normal a w → wpAny P md (ops.push o) Q fuel listed a w := by
    intro fuel listed a w h1 h2
    cases fuel with
    | zero => exact ⟨h1, h2⟩
    | succ f => exact ⟨fun _ => h2, fun i hi => by rw [h1] at hi; cases hi⟩

  have lastC : ∀ (fuel : Nat) (listed : Array Bool) (a : Act) (w : World), listed.size = ops.size → ClosedL md ops listed → (Region.ready md ops listed = [] → Q' .normal a w) → ops.size ∈ Region.ready md (ops.push o) (listed.push false) →
      wpOp P (ops.push o) Q ops.size (wpAny P md (ops.push o) Q fuel ((listed.push false).setIfInBounds ops.size true)) a w := by
    intro fuel listed a w hs hcl hQ hi
    have hall := last_ready listed hs hcl hi
    exact wpOp_mono (fun a w h => fin _ _ a w (none_ready' listed hs hall) h) (hn a w (hQ (none_ready listed hall)))
  have all_of_none : ∀ (listed : Array Bool), listed.size = ops.size → Region.ready md ops listed = [] → ∀ k, k < ops.size → listed.getD k false = true := by
    intro listed hs h k
    induction k using Nat.strongRecOn with
    | _ k ih =>
      intro hk
      obtain ⟨ok, h1, h2⟩ := backOk_spec hbk (Nat.le_of_lt hk)
      rw [Array.getElem?_push_lt hk, ← Array.getElem?_eq_getElem] at h1
      cases hl : listed.getD k false with
      | true => rfl
      | false =>
        exfalso
        have : k ∈ Region.ready md ops listed := by
          refine mem_ready.2 ⟨?_, ok, h1, fun e he hb => ih e.on (h2 e he hb) (by have := h2 e he hb; omega)⟩
          simp only [Array.getD_eq_getD_getElem?] at hl ⊢
          rw [Array.getElem?_eq_getElem (by omega : k < listed.size)] at hl ⊢
          exact hl
        rw [h] at this
        cases this
  have some_ready : ∀ (listed : Array Bool), listed.size = ops.size → Region.ready md (ops.push o) (listed.push false) ≠ [] := by
    intro listed hs h
    have hno : Region.ready md ops listed = [] := by
      refine List.eq_nil_iff_forall_not_mem.2 fun i hi => ?_
      have := ready_gt listed i hs hi
      rw [h] at this
      cases this
    have hall := all_of_none listed hs hno
    obtain ⟨o', h1, h2⟩ := backOk_spec hbk (Nat.le_refl ops.size)
    have : ops.size ∈ Region.ready md (ops.push o) (listed.push false) := by
      refine mem_ready.2 ⟨?_, o', h1, fun e he hb => by rw [getD_push_false]; exact hall e.on (h2 e he hb)⟩
      simp [Array.getD_eq_getD_getElem?, ← hs]
    rw [h] at this
    cases this
  intro fuel
  induction fuel with
  | zero =>
    intro listed a w hs hcl H
    refine ⟨fun h => absurd h (some_ready listed hs), fun i hi => ?_⟩
    by_cases hne : i = ops.size
    · subst hne
      exact lastC 0 listed a w hs hcl (fun _ => H.2) hi
    · have := ready_lt listed i hs hi hne
      rw [H.1] at this
      cases this
  | succ fuel ih =>
    intro listed a w hs hcl H
    refine ⟨fun h => absurd h (some_ready listed hs), fun i hi => ?_⟩
    by_cases hne : i = ops.size
    · subst hne
      exact lastC _ listed a w hs hcl H.1 hi
    · have hr := ready_lt listed i hs hi hne
      have h1 := H.2 i hr
      obtain ⟨h0, oi, hoi, h2⟩ := mem_ready.1 hr
      have hlt : i < ops.size := (Array.getElem?_eq_some_iff.1 hoi).1
      have hset : (listed.push false).setIfInBounds i true = (listed.setIfInBounds i true).push false := by
        have hil : i < listed.size := by omega
        apply Array.ext_getElem?
        intro j
        simp only [Array.getElem?_setIfInBounds, Array.getElem?_push, Array.size_push, Array.size_setIfInBounds]
        by_cases h1 : i = j
        · subst h1
          rw [if_pos rfl, if_pos (by omega), if_neg (by omega), if_pos rfl, if_pos hil]
        · rw [if_neg h1, if_neg h1]
      have hs' : (listed.setIfInBounds i true).size = ops.size := by simp [hs]
      have hcl' : ClosedL md ops (listed.setIfInBounds i true) := by
        intro k ok hk hl e he hb
        by_cases hki : k = i
        · subst hki
          rw [hoi] at hk
          cases hk
          exact getD_set_true (h2 e he hb)
        · rw [getD_set_ne false (Ne.symm hki)] at hl
          exact getD_set_true (hcl k ok hk hl e he hb)
      rw [hset]
      unfold wpOp at h1 ⊢
      rw [Array.getElem?_push_lt hlt, ← Array.getElem?_eq_getElem, hoi]
      rw [hoi] at h1
      simp only at h1 ⊢
      have hw : Region.wanted oi (yielded (ops.push o) a.tmps) = Region.wanted oi (yielded ops a.tmps) := by
        have : yielded (ops.push o) a.tmps = yielded ops a.tmps := funext fun j => yielded_push hd _ _
        rw [this]
      rw [hw]
      split
      · rename_i hwt
        rw [if_pos hwt] at h1
        exact h1.imp (upon_to hp ho (fun a w h => ih _ a w hs' hcl' h)) (fun h => ⟨h.1, ho h.2⟩)
      · rename_i hwt
        rw [if_neg hwt] at h1
        exact ih _ _ w hs' hcl' h1
end
section
variable {c : Cx} {Q : SQ} {env : Env} {ds : List Deferred} {H : List Res}
def lastS (c : Cx) (o : Oper) (Q : SQ) : SQ
  | .normal => fun env ds H => ∃ H', Sto c env ds H o H' ∧ Q .normal env ds H'
  | e => Q e
theorem WC.drawLast {id : Nat} {l0 : List Oper} {op : Op} {ty : TypeId} {pos : String} {af : Array Edge} (n : Nat) (Hs : List Res) (hn0 : l0.length = n + 1) (hl : l0.getLast? = some ⟨none, op, ty, pos, af, none⟩) (hm : c.P.follows .mixedOrders = true)
    (hok : (noDefer l0.toArray && lastOk .any l0.toArray n && backOk .any l0.toArray n) = true) (hs : ∃ F, TakeL H Hs F)
    (h : WD c l0.dropLast.toArray Hs (lastS c ⟨none, op, ty, pos, af, none⟩ Q) n (Array.replicate n false) env ds H) : WC c (.region id l0.toArray true) Q env ds H := by
  obtain ⟨l, hll⟩ : ∃ l, l = l0.dropLast := ⟨_, rfl⟩
  have e0 : l0.toArray = l.toArray.push ⟨none, op, ty, pos, af, none⟩ := by
    have : l0 = l ++ [⟨none, op, ty, pos, af, none⟩] := by
      rw [hll]
      cases h0 : l0 with
      | nil => rw [h0] at hl; cases hl
      | cons x xs =>
        have hne : l0 ≠ [] := by rw [h0]; simp
        rw [← h0]
        rw [List.getLast?_eq_some_getLast hne] at hl
        rw [← Option.some.inj hl]
        exact (List.dropLast_concat_getLast hne).symm
    rw [this]
    simp
  have e1 : n = l.toArray.size := by rw [hll]; simp; omega
  rw [← hll] at h
  subst e1
  rw [e0] at hok ⊢
  simp only [Bool.and_eq_true] at hok
  obtain ⟨⟨hd, hok1⟩, hok2⟩ := hok
  refine ⟨fun a w ha hw => wpIn_draw hm hd (fun _ _ h => h.1) ?_⟩
  have h1 := wpAny_of_held _ _ _ _ (h.run a _ ha hw.drew (by obtain ⟨F, t⟩ := hs; exact (hw.drew.perm t.perm).left))
  have := wpAny_last (P := c.P) (md := .any) (ops := l.toArray) (Q := up c Q) (Q' := up c (lastS c ⟨none, op, ty, pos, af, none⟩ Q)) (o := ⟨none, op, ty, pos, af, none⟩) rfl hok1 hok2 ?_ ?_ ?_ _ _ _ _ (by simp) ?_ h1
  · have e1 : (l.toArray.push ⟨none, op, ty, pos, af, none⟩).size = l.toArray.size + 1 := Array.size_push _
    have e2 : Array.replicate (l.toArray.size + 1) false = (Array.replicate l.toArray.size false).push false := Array.replicate_succ
    rw [e1, e2]
    exact this
  · rintro a w ⟨_, env', ds', H', g1, g2, H2, g3, g4⟩
    obtain ⟨w', k1, k2⟩ := g3 a w g1 g2
    unfold wpOp
    rw [Array.getElem?_push_size]
    simp only
    rw [if_pos (by simp [Region.wanted])]
    refine .inl ?_
    unfold Oper.wp
    rw [k1]
    exact ⟨trivial, env', ds', H2, g1.putNone _, k2, g4⟩
  · rintro ch a w ⟨h, _⟩
    exact h.elim
  · rintro ⟨a, w, h, _⟩
    exact h.elim
  · intro k o _ hl
    rw [getD_replicate_false] at hl
    cases hl
end
end Go.Proofs.YtbgimajbehodnaaGreatDoor
