/- A drawn region in which a function value handed over is called (a yield): rules. General lemmas of this claim's own, about no program in particular. -/
import Derived.Test.YtcplbkbimpiioaaGreatDoorLibZ
import Derived.OrdersHeld
namespace Go
section
variable {P : Program} {ops : Array Oper} {Q : Exit → Act → World → Prop} {md : Region.Mode} {S : World → Prop} {F : Fence} {n : Nat}
theorem YieldsIf.wpOpInJ {i : Nat} {o : Oper} {v : Value} {a : Act} (hro : F.round = none) (hfn : ∀ f, F.fn f) (hi : ops[i]? = some o) (hy : YieldsIf P ops S o v a)
    {K : Act → World → Prop} {w : World} (hS : S w) (h : K (a.put o.dst v) w) : wpOpIn F n P ops Q i K a w := by
  unfold Go.wpOpIn
  simp only [hi]
  have hab : ∀ f, o.about P w a.eval = some f → F.fn f := fun f _ => hfn f
  rcases hy with ⟨hw, hv⟩ | ⟨hw, rfl⟩
  · simp only [hw, if_true, Oper.wpIn, hro, Oper.semAt_none, hv w hS, Oper.uponIn]; exact ⟨hab, h⟩
  · simp only [hw, Bool.false_eq_true, if_false]; exact ⟨hab, h⟩
theorem wpOpIn_putIf {j : Nat} {oi oj : Oper} {v : Value} (hro : F.round = none) (hfn : ∀ f, F.fn f) (hj : ops[j]? = some oj) (hap : oi.apart ops oj = true)
    (hsi : ∀ cs b, oi.op ≠ .select cs b) (hsj : ∀ cs b, oj.op ≠ .select cs b)
    (hQ : ∀ c a w, Q (.panic c) (a.put oi.dst v) w → Q (.panic c) a w) {K : Act → World → Prop} {a : Act} {w : World}
    (hy : YieldsIf P ops S oi v a) (h : wpOpIn F n P ops Q j K (a.put oi.dst v) w) :
    wpOpIn F n P ops Q j (fun a' w' => YieldsIf P ops S oi v a' ∧ K (a'.put oi.dst v) w') a w := by
  obtain ⟨h1, h2, h3⟩ := Oper.apart_spec hap
  have keep : ∀ (a : Act), YieldsIf P ops S oi v a → ∀ u, YieldsIf P ops S oi v (a.put oj.dst u) := fun a hy u =>
    hy.of_same (execOp_put oi hsi a oj.dst u h3) (wanted_put oi a oj.dst u h3)
  have keepD : ∀ d, YieldsIf P ops S oi v { a with defers := d :: a.defers } := fun d => hy.of_same rfl rfl
  unfold wpOpIn at *
  simp only [hj] at *
  rw [wanted_put oj a oi.dst v h1, about_put oj w a oi.dst v h1] at h
  split
  · rename_i hw
    simp only [hw, if_true] at h
    unfold Oper.wpIn at *
    rw [about_put oj w a oi.dst v h1] at h
    refine ⟨h.1, ?_⟩
    have h := h.2
    rw [hro, Oper.semAt_none, execOp_put oj hsj a oi.dst v h1] at h
    rw [hro, Oper.semAt_none]
    generalize (execOp a.eval oj).run P w = r at *
    cases r with
    | ok x w' =>
      cases x <;> simp only [Oper.uponIn] at h ⊢
      case value u => exact ⟨keep a hy u, by rw [← Act.put_comm a v u h2]; exact h⟩
      case skip => exact ⟨keep a hy _, by rw [← Act.put_comm a v undef h2]; exact h⟩
      case defer d =>
        refine ⟨keep _ (keepD d) _, ?_⟩
        rw [← Act.put_comm _ v undef h2, ← Act.put_defers]
        exact h
      case enter f args =>
        refine ⟨h.1, CallsIn.mono h.2 fun e w'' he => ?_⟩
        cases e with
        | returned u => exact ⟨keep a hy u, by rw [← Act.put_comm a v u h2]; exact he⟩
        | panicked c => exact hQ _ _ _ he
        | outgrown => exact he
      case row row args => exact ⟨h.1, RowsIn.mono h.2 fun u w'' he => ⟨keep a hy u, by rw [← Act.put_comm a v u h2]; exact he⟩⟩
      case round l f tmps assign body =>
        refine ⟨h.1, RoundIn.mono h.2 fun e w'' he => ?_⟩
        cases e with
        | returned u => exact ⟨keep a hy u, by rw [← Act.put_comm a v u h2]; exact he⟩
        | panicked c => exact hQ _ _ _ he
        | outgrown => exact he
    | halt x w' =>
      cases x <;> simp only [Oper.uponIn] at h ⊢
      case panic u => exact hQ _ _ _ h
  · rename_i hw
    simp only [hw] at h
    exact ⟨h.1, keep a hy _, by rw [← Act.put_comm a v undef h2]; exact h.2⟩
/-- Whatever order is picked, and S holds behind every operation. -/
def wpAnyJ (F : Fence) (n : Nat) (P : Program) (md : Region.Mode) (ops : Array Oper) (Q : Exit → Act → World → Prop) (S : World → Prop) : Nat → Array Bool → Act → World → Prop
  | 0, listed, a, w => Region.ready md ops listed = [] ∧ Q .normal a w
  | fuel + 1, listed, a, w =>
    (Region.ready md ops listed = [] → Q .normal a w) ∧
    ∀ i ∈ Region.ready md ops listed, wpOpIn F n P ops Q i (fun a' w' => S w' ∧ wpAnyJ F n P md ops Q S fuel (listed.setIfInBounds i true) a' w') a w
theorem wpAnyIn_of_J : ∀ (fuel : Nat) (listed : Array Bool) (a : Act) (w : World), wpAnyJ F n P md ops Q S fuel listed a w → wpAnyIn F n P md ops Q fuel listed a w
  | 0, _, _, _, h => h
  | fuel + 1, _, _, _, h => ⟨h.1, fun i hi => wpOpIn_mono (fun a' w' h' => wpAnyIn_of_J fuel _ a' w' h'.2) (h.2 i hi)⟩
theorem wpAnyJ_first {i : Nat} {oi : Oper} {v : Value} (hro : F.round = none) (hfn : ∀ f, F.fn f) (hi : ops[i]? = some oi) (hsel : ∀ (j : Nat) (o : Oper) cs b, ops[j]? = some o → o.op ≠ .select cs b)
    (hQ : ∀ c a w, Q (.panic c) (a.put oi.dst v) w → Q (.panic c) a w) :
    ∀ (fuel : Nat) (listed : Array Bool) (a : Act) (w : World),
      (∀ j oj, ops[j]? = some oj → j ≠ i → listed.getD j true = false → (∀ e ∈ oj.after, Region.binds md e = true → e.on ≠ i) → oi.apart ops oj = true) →
      i ∈ Region.ready md ops listed → YieldsIf P ops S oi v a → S w →
      wpAnyJ F n P md ops Q S fuel (listed.setIfInBounds i true) (a.put oi.dst v) w → wpAnyJ F n P md ops Q S (fuel + 1) listed a w := by
  intro fuel
  induction fuel with
  | zero =>
    intro listed a w _ hr hy hS H
    refine ⟨fun h => (by rw [h] at hr; cases hr), fun j hj => ?_⟩
    by_cases hji : j = i
    · subst hji; exact hy.wpOpInJ hro hfn hi hS ⟨hS, H⟩
    · have := ready_mono hj hji
      rw [H.1] at this
      cases this
  | succ fuel ih =>
    intro listed a w hfree hr hy hS H
    refine ⟨fun h => (by rw [h] at hr; cases hr), fun j hj => ?_⟩
    by_cases hji : j = i
    · subst hji; exact hy.wpOpInJ hro hfn hi hS ⟨hS, H⟩
    · have h1 := H.2 j (ready_mono hj hji)
      obtain ⟨hjun, oj, hoj, hall⟩ := mem_ready.1 hj
      have hnot : ∀ e ∈ oj.after, Region.binds md e = true → e.on ≠ i := fun e he hb heq => by
        have h1 := hall e he hb
        have h0 := (mem_ready.1 hr).1
        rw [heq] at h1
        rcases Nat.lt_or_ge i listed.size with h' | h'
        · simp [h'] at h0 h1; rw [h0] at h1; cases h1
        · simp [Array.getElem?_eq_none h'] at h1
      have h2 := wpOpIn_putIf hro hfn hoj (hfree j oj hoj hji hjun hnot) (fun cs b => hsel i oi cs b hi) (fun cs b => hsel j oj cs b hoj) hQ hy h1
      have hfree' : ∀ k ok, ops[k]? = some ok → k ≠ i → (listed.setIfInBounds j true).getD k true = false →
          (∀ e ∈ ok.after, Region.binds md e = true → e.on ≠ i) → oi.apart ops ok = true := fun k ok hk hki hun hno => by
        refine hfree k ok hk hki ?_ hno
        by_cases hjk : j = k
        · subst hjk; exact hjun
        · rw [getD_set_ne true hjk] at hun; exact hun
      refine wpOpIn_mono (fun a' w' h3 => ⟨h3.2.1, ih (listed.setIfInBounds j true) a' w' hfree' (ready_mono hr (Ne.symm hji)) h3.1 h3.2.1 ?_⟩) h2
      rw [Array.setIfInBounds_comm _ _ hji]
      exact h3.2.2
theorem wpAnyJ_take {i : Nat} {oi : Oper} {v : Value} {fuel : Nat} {listed : Array Bool} {a : Act} {w : World} (hro : F.round = none) (hfn : ∀ f, F.fn f) (hi : ops[i]? = some oi)
    (hs : Region.noSelect ops = true) (hf : Region.free md ops listed i = true) (hr : (Region.ready md ops listed).contains i = true)
    (hQ : ∀ c a w, Q (.panic c) (a.put oi.dst v) w → Q (.panic c) a w) (hy : YieldsIf P ops S oi v a) (hS : S w)
    (h : wpAnyJ F n P md ops Q S fuel (listed.setIfInBounds i true) (a.put oi.dst v) w) : wpAnyJ F n P md ops Q S (fuel + 1) listed a w :=
  wpAnyJ_first hro hfn hi (Region.noSelect_spec hs) hQ fuel listed a w (Region.free_spec hi hf) (by simpa using hr) hy hS h
theorem wpAnyJ_all {rs : List Nat} {fuel : Nat} {listed : Array Bool} {a : Act} {w : World} (hr : Region.ready md ops listed = rs) (hne : rs ≠ [])
    (h : ∀ i ∈ rs, wpOpIn F n P ops Q i (fun a' w' => S w' ∧ wpAnyJ F n P md ops Q S fuel (listed.setIfInBounds i true) a' w') a w) : wpAnyJ F n P md ops Q S (fuel + 1) listed a w :=
  ⟨fun h0 => absurd (hr ▸ h0) hne, hr ▸ h⟩
theorem wpAnyJ_done {listed : Array Bool} {a : Act} {w : World} (hr : Region.ready md ops listed = []) (h : Q .normal a w) :
    ∀ fuel, wpAnyJ F n P md ops Q S fuel listed a w
  | 0 => ⟨hr, h⟩
  | _ + 1 => ⟨fun _ => h, by rw [hr]; simp⟩
end
end Go
namespace Go.Proofs.YtcplbkbimpiioaaGreatDoor
open Go Go.RowKit
section
variable {c : Cx} {Q : SQ} {env : Env} {ds : List Deferred} {H F : List Res} {ops : Array Oper} {Hs : List Res} {fuel : Nat} {listed : Array Bool} {ty : TypeId} {pos : String} {af : Array Edge}
structure WJ (c : Cx) (ops : Array Oper) (Hs : List Res) (Q : SQ) (fuel : Nat) (listed : Array Bool) (env : Env) (ds : List Deferred) (H : List Res) : Prop where
  run : ∀ a w, Has env c.n ds a → OK c.w0 c.S H w → OK c.w0 c.S Hs w → wpAnyJ (FW none) 0 c.P .any ops (up c Q) (OK c.w0 c.S Hs) fuel listed a w
theorem WC.drawAnyJ {id : Nat} {l : List Oper} (Hs : List Res) (hm : c.P.follows .mixedOrders = true) (hro : c.ro = none) (hs : ∃ F, TakeL H Hs F)
    (h : WJ c l.toArray Hs Q l.toArray.size (Array.replicate l.toArray.size false) env ds H) : WC c (.region id l.toArray true) Q env ds H :=
  ⟨fun a w ha hw => by
    rw [hro]
    exact wpIn_region_any hm (wpAnyIn_of_J _ _ _ _ (h.run a _ ha hw.drew (by obtain ⟨F, t⟩ := hs; exact (hw.drew.perm t.perm).left)))⟩
theorem WJ.take {o : Oper} {v : Value} {dd : Nat} (i : Nat) (hi : ops[i]? = some o) (hs : Region.noSelect ops = true) (hf : Region.free .any ops listed i = true) (hr : (Region.ready .any ops listed).contains i = true)
    (hdst : o.dst = some dd) (hg : o.guard = none) (hy : Yl c env ds Hs o v) (hn : Nat.blt dd c.n = true)
    (k : WJ c ops Hs Q fuel (listed.setIfInBounds i true) ((dd, v) :: env) ds H) : WJ c ops Hs Q (fuel + 1) listed env ds H := by
  refine ⟨fun a w ha hw hS => ?_⟩
  refine wpAnyJ_take rfl (fun _ => trivial) hi hs hf hr (fun ch a w h => h.1.elim) (v := v) ?_ hS ?_
  · exact .inl ⟨by simp [Region.wanted, hg], fun w' hS' => hy a w' ha hS'⟩
  · rw [hdst]
    exact k.run _ _ (ha.put hn v) hw hS
theorem WJ.takeOn {o : Oper} {v : Value} {dd j t : Nat} {b : Bool} (i : Nat) (hi : ops[i]? = some o) (hs : Region.noSelect ops = true) (hf : Region.free .any ops listed i = true) (hr : (Region.ready .any ops listed).contains i = true)
    (hdst : o.dst = some dd) (hg : o.guard = some (j, b)) (hj : (ops[j]?).bind (·.dst) = some t) (hv : Env.get env t = some (.bool b)) (hy : Yl c env ds Hs o v) (hn : Nat.blt dd c.n = true)
    (k : WJ c ops Hs Q fuel (listed.setIfInBounds i true) ((dd, v) :: env) ds H) : WJ c ops Hs Q (fuel + 1) listed env ds H := by
  refine ⟨fun a w ha hw hS => ?_⟩
  refine wpAnyJ_take rfl (fun _ => trivial) hi hs hf hr (fun ch a w h => h.1.elim) (v := v) ?_ hS ?_
  · refine .inl ⟨?_, fun w' hS' => hy a w' ha hS'⟩
    have hy : yielded ops a.tmps j = some b := by
      unfold yielded
      rw [hj]
      simp [ha.2.2 t _ hv]
    simp [Region.wanted, hg, hy]
  · rw [hdst]
    exact k.run _ _ (ha.put hn v) hw hS
theorem WJ.takeOff {o : Oper} {dd j t : Nat} {b b' : Bool} (i : Nat) (hi : ops[i]? = some o) (hs : Region.noSelect ops = true) (hf : Region.free .any ops listed i = true) (hr : (Region.ready .any ops listed).contains i = true)
    (hdst : o.dst = some dd) (hg : o.guard = some (j, b)) (hj : (ops[j]?).bind (·.dst) = some t) (hv : Env.get env t = some (.bool b')) (hb : (b' == b) = false) (hn : Nat.blt dd c.n = true)
    (k : WJ c ops Hs Q fuel (listed.setIfInBounds i true) ((dd, undef) :: env) ds H) : WJ c ops Hs Q (fuel + 1) listed env ds H := by
  refine ⟨fun a w ha hw hS => ?_⟩
  refine wpAnyJ_take rfl (fun _ => trivial) hi hs hf hr (fun ch a w h => h.1.elim) (v := undef) ?_ hS ?_
  · refine .inr ⟨?_, rfl⟩
    have hy : yielded ops a.tmps j = some b' := by
      unfold yielded
      rw [hj]
      simp [ha.2.2 t _ hv]
    simp only [Region.wanted, hg, hy]
    simpa using hb
  · rw [hdst]
    exact k.run _ _ (ha.put hn undef) hw hS
/-- Number i comes up. -/
def WOJ (c : Cx) (ops : Array Oper) (Hs : List Res) (Q : SQ) (fuel : Nat) (listed : Array Bool) (env : Env) (ds : List Deferred) (H : List Res) (i : Nat) : Prop :=
  ∀ a w, Has env c.n ds a → OK c.w0 c.S H w → OK c.w0 c.S Hs w → wpOpIn (FW none) 0 c.P ops (up c Q) i (fun a' w' => OK c.w0 c.S Hs w' ∧ wpAnyJ (FW none) 0 c.P .any ops (up c Q) (OK c.w0 c.S Hs) fuel (listed.setIfInBounds i true) a' w') a w
theorem WJ.all (rs : List Nat) (hr : Region.ready .any ops listed = rs) (hne : rs ≠ []) (h : ∀ i ∈ rs, WOJ c ops Hs Q fuel listed env ds H i) : WJ c ops Hs Q (fuel + 1) listed env ds H :=
  ⟨fun a w ha hw hS => wpAnyJ_all hr hne fun i hi => h i hi a w ha hw hS⟩
theorem WJ.one (i : Nat) (hr : Region.ready .any ops listed = [i]) (h : WOJ c ops Hs Q fuel listed env ds H i) : WJ c ops Hs Q (fuel + 1) listed env ds H :=
  WJ.all [i] hr (by simp) fun j hj => by rw [List.mem_singleton.1 hj]; exact h
theorem WJ.say {t : Nat} {v v' : Value} (hv : Env.get env t = some v) (hb : v = v') (k : WJ c ops Hs Q fuel listed ((t, v') :: env) ds H) : WJ c ops Hs Q fuel listed env ds H := by
  subst hb
  exact ⟨fun a w ha hw hS => k.run a w ⟨ha.1, ha.2.1, fun s v hs => by
    unfold Env.get at hs
    cases hh : Nat.beq t s with
    | true => rw [hh] at hs; cases hs; rw [← Nat.eq_of_beq_eq_true hh]; exact ha.2.2 _ _ hv
    | false => rw [hh] at hs; exact ha.2.2 s v hs⟩ hw hS⟩
theorem WJ.know {t : Nat} {b b' : Bool} (hv : Env.get env t = some (.bool b)) (hb : b = b') (k : WJ c ops Hs Q fuel listed ((t, .bool b') :: env) ds H) : WJ c ops Hs Q fuel listed env ds H := WJ.say hv (by rw [hb]) k
theorem WJ.both {t : Nat} {b : Bool} (hv : Env.get env t = some (.bool b)) (h1 : b = true → WJ c ops Hs Q fuel listed ((t, .bool true) :: env) ds H) (h2 : b = false → WJ c ops Hs Q fuel listed ((t, .bool false) :: env) ds H) : WJ c ops Hs Q fuel listed env ds H := by
  cases b with
  | true => exact WJ.know hv rfl (h1 rfl)
  | false => exact WJ.know hv rfl (h2 rfl)
theorem WJ.done (hr : Region.ready .any ops listed = []) (h : Q .normal env ds H) : WJ c ops Hs Q fuel listed env ds H :=
  ⟨fun _ _ ha hw _ => wpAnyJ_done hr ⟨trivial, env, ds, H, ha, hw, h⟩ fuel⟩
theorem WOJ.off {i : Nat} {o : Oper} {dd j t : Nat} {b b' : Bool} (hi : ops[i]? = some o) (hdst : o.dst = some dd) (hg : o.guard = some (j, b)) (hj : (ops[j]?).bind (·.dst) = some t) (hv : Env.get env t = some (.bool b')) (hb : (b' == b) = false) (hn : Nat.blt dd c.n = true)
    (k : WJ c ops Hs Q fuel (listed.setIfInBounds i true) ((dd, undef) :: env) ds H) : WOJ c ops Hs Q fuel listed env ds H i := fun a w ha hw hS => by
  have hy : yielded ops a.tmps j = some b' := by
    unfold yielded
    rw [hj]
    simp [ha.2.2 t _ hv]
  have e1 : ¬ (Region.wanted o (yielded ops a.tmps) = true) := by
    simp only [Region.wanted, hg, hy]
    simpa using hb
  unfold wpOpIn
  simp only [hi]
  rw [if_neg e1, hdst]
  exact ⟨fun _ _ => trivial, hS, k.run _ _ (ha.put hn undef) hw hS⟩
/-- The function value handed over is called. -/
theorem WOJ.yield {i : Nat} {f : Operand} {xs : List Operand} {ts : Array TypeId} {l d : Nat} {us : List Value} {g gx : Guest} {ys : List (Array Value)} {j : Nat} {T : Nat → Prop} {gg : Option (Nat × Bool)}
    (hi : ops[i]? = some ⟨some d, .call { callee := .value f, args := xs.toArray, argTypes := ts }, ty, pos, af, gg⟩) (hgd : Gd ops env gg) (hy : Yields c.P g gx ys l)
    (hf : ev env f = some (.func (.yield l) #[] #[])) (hx : evs env xs = some us) (hj : ys[j]? = some us.toArray) (tk : Take1 H (gstR g j T) F) (hn : Nat.blt d c.n = true)
    (hs : ∀ (b : Bool) T', ∃ F', TakeL (gstR (if b then g else gx) (if b then j + 1 else j) T' :: F) Hs F')
    (k : ∀ (b : Bool) T', WJ c ops Hs Q fuel (listed.setIfInBounds i true) ((d, .bool b) :: env) ds (gstR (if b then g else gx) (if b then j + 1 else j) T' :: F)) :
    WOJ c ops Hs Q fuel listed env ds H i := fun a w ha hw hS => by
  unfold wpOpIn
  simp only [hi]
  rw [if_pos (hgd.wanted (o := ⟨some d, .call { callee := .value f, args := xs.toArray, argTypes := ts }, ty, pos, af, gg⟩) ha)]
  have hg := hw.get tk
  obtain ⟨fn, tmps, assign, body, hrun, hR⟩ := yieldAt_any (ro' := none) (n' := 0 - 1) (hy.run j _ T w hj hg.1 hg.2.2 hg.2.1)
  have e1 : (execOp a.eval ⟨some d, .call { callee := .value f, args := xs.toArray, argTypes := ts }, ty, pos, af, gg⟩).run c.P w = .ok (.round l fn tmps assign body) w := by
    simp only [execOp, resolve, Deferred.ofValue, ha.ev hf, invoke, Sem.run_bind, Sem.run_pure, Result.andThen_ok, List.map_toArray, ha.evs hx, Array.empty_append, List.append_toArray, Array.append_empty]
    exact hrun
  unfold Oper.wpIn
  refine ⟨fun _ _ => trivial, ?_⟩
  rw [Oper.semAt_none, e1]
  refine ⟨fun h => by simp at h, RoundIn.mono hR ?_⟩
  have key : ∀ (b : Bool) T' w', (if b then g else gx).J (if b then j + 1 else j) T' w' → Chg T w w' → Adds T T' w w' → OK c.w0 c.S Hs w' ∧ wpAnyJ (FW none) 0 c.P .any ops (up c Q) (OK c.w0 c.S Hs) fuel (listed.setIfInBounds i true) (a.put (some d) (.bool b)) w' := by
    intro b T' w' hJ hc hA
    have hOK : OK c.w0 c.S (gstR (if b then g else gx) (if b then j + 1 else j) T' :: F) w' := by
      have hW : (if b then g else gx).W = g.W := by cases b; exact hy.same; rfl
      refine hw.turnG tk hc ⟨hJ, fun q hq => ?_, by rw [hW]; exact Nat.le_trans hg.2.2 hc.size⟩ (fun q hq => ?_) (fun q hq => ?_)
      · rcases hA q hq with h | h
        · exact Nat.lt_of_lt_of_le (hg.2.1 q h) hc.size
        · exact h.2
      · rcases hA q hq with h | h
        · exact .inl h
        · exact .inr h.1
      · rcases hq with h | h
        · rcases hA q h with h | h
          · exact .inl (.inl h)
          · exact .inr h.1
        · rw [hW] at h; exact .inl (.inr h)
    obtain ⟨F', t⟩ := hs b T'
    have hS' := (hOK.perm t.perm).left
    exact ⟨hS', (k b T').run _ _ (ha.put hn _) hOK hS'⟩
  rintro e w' (⟨rfl, T', h1, h2, h3⟩ | ⟨rfl, T', h1, h2, h3⟩)
  · exact key true T' w' h1 h2 h3
  · exact key false T' w' h1 h2 h3
end
end Go.Proofs.YtcplbkbimpiioaaGreatDoor
