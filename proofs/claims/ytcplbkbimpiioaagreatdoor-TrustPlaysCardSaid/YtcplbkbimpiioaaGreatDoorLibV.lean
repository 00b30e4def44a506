/- Calls by contracts with footprints; regions that draw their order, over abstract states: general lemmas of this claim's own, about no program in particular. -/
import Derived.Test.YtcplbkbimpiioaaGreatDoorLibU
import Derived.OrdersHeld
namespace Go.Proofs.YtcplbkbimpiioaaGreatDoor
open Go Go.RowKit

/-! ### What a callee may read -/

/-- v can be read in w, and stays so whatever becomes of the blocks in T. -/
def RdS (w : World) (T : Pm) (v : Value) (size n : Nat) (cs : List Value) : Prop := ∀ w', Chg T.wr w w' → Rd w' size v n cs

theorem RdS.rd {w : World} {T : Pm} {v : Value} {size n : Nat} {cs : List Value} (h : RdS w T v size n cs) : Rd w size v n cs := h w (Chg.refl _ _)

/-- v is read off the resource r. -/
structure RdOf (r : Res) (v : Value) (size n : Nat) (cs : List Value) : Prop where
  rd : ∀ w, r.ok w → Rd w size v n cs

theorem RdOf.own {v : Value} {e size n : Nat} {cs : List Value} : RdOf (ownR v e size n cs) v size n cs := ⟨fun _ h => Sown.rd h⟩
theorem RdOf.rd' {v : Value} {size n : Nat} {cs : List Value} : RdOf (rdR v size n cs) v size n cs := ⟨fun _ h => h⟩
theorem RdOf.blk {b off n cap size : Nat} {T : TypeId} {cs cs' : List Value} (hn : n ≤ cap) (hm : cap ≤ maxLen) (hl : off + n * size ≤ cs.length) (he : (cs.drop off).take (n * size) = cs') : RdOf (blkR b T cs) (.slice (some ⟨b, off, none⟩) n cap) size n cs' :=
  ⟨fun _ h => he ▸ Rd.of_cells h hn hm hl⟩
theorem RdOf.sub {r : Res} {size : Nat} {ao : Option Addr} {n cap l h : Nat} {cs cs' : List Value} (k : RdOf r (.slice ao n cap) size n cs) (h1 : l ≤ h) (h2 : h ≤ n) (he : (cs.drop (l * size)).take ((h - l) * size) = cs') :
    RdOf r (subS (.slice ao n cap) l h cap size) size (h - l) cs' := ⟨fun w hw => he ▸ (k.rd w hw).sub l h h1 h2⟩
theorem RdOf.sub3 {r : Res} {size : Nat} {ao : Option Addr} {n cap m : Nat} {cs cs' : List Value} (k : RdOf r (.slice ao n cap) size n cs) (h1 : m ≤ n) (he : cs.take (m * size) = cs') :
    RdOf r (subS (.slice ao n cap) 0 m m size) size m cs' := ⟨fun w hw => he ▸ (k.rd w hw).sub3 m h1⟩
theorem RdOf.cs {r : Res} {v : Value} {size n : Nat} {cs cs' : List Value} (k : RdOf r v size n cs) (he : cs = cs') : RdOf r v size n cs' := he ▸ k

section
variable {c : Cx} {Q : SQ} {env : Env} {ds : List Deferred} {H F A : List Res}

theorem Reads.of {r : Res} {v : Value} {size n : Nat} {cs : List Value} (h : RdOf r v size n cs) (t : Take1 H r F) : Reads c H v size n cs := fun _ hw => h.rd _ (hw.get t)
theorem Reads.s {v : Value} {size n : Nat} {cs : List Value} (h : RdS c.w0 c.S v size n cs) : Reads c H v size n cs := fun w hw => h w hw.chg

/-- For a callee that turns the resources A, v is read off one of the others. -/
theorem OK.src {F' : List Res} {w : World} {r : Res} {v : Value} {size n : Nat} {cs : List Value} (hw : OK c.w0 c.S (A ++ F) w) (h : RdOf r v size n cs) (t : Take1 F r F') : RdS w (fpL A) v size n cs := fun w' hc => by
  have hok := hw.all r (List.mem_append_right _ t.mem)
  refine h.rd w' (r.st w w' _ hok hc fun k hk => ?_)
  rintro ⟨s, hs, hsk⟩
  exact ((List.pairwise_append.1 hw.dis).2.2 s hs r t.mem).1 k hsk hk
/-- .. or of what came in. -/
theorem OK.srcS {w : World} {v : Value} {size n : Nat} {cs : List Value} (hw : OK c.w0 c.S (A ++ F) w) (h : RdS c.w0 c.S v size n cs) : RdS w (fpL A) v size n cs := fun w' hc =>
  h w' (hw.chg.trans' hc (fun _ _ e => e) (by
    rintro i hi ⟨s, hs, hsk⟩
    exact hw.loc s (List.mem_append_left _ hs) i hsk hi))
end

/-! ### Calls by contracts -/

section
variable {c : Cx} {Q : SQ} {env : Env} {ds : List Deferred} {H F A : List Res} {ops : Array Oper} {rest : List Oper} {d : Nat} {op : Op} {ty : TypeId} {pos : String} {af : Array Edge}

/-- A function's promise: it turns the resources A into B x, and leaves all other memory as it was. -/
def Fn (P : Program) (f : FuncId) (vs : List Value) (A : List Res) (w : World) {α : Type} (Φ : α → Prop) (v : α → Value) (B : α → List Res) : Prop :=
  Calls P f vs.toArray w fun e w' => ∃ x, Φ x ∧ e = .returned (v x) ∧ OK w (fpL A) (B x) w'

theorem OK.sub {w0 : World} {S : Pm} {H B F : List Res} {w : World} (h : OK w0 S H w) (t : TakeL H B F) : OK w0 S B w := (h.perm t.perm).left

theorem enterF {P : Program} {f : FuncId} {fn : Func} {k : Code} {vs : List Value} {A : List Res} {w : World} {n : Nat} {α : Type} {Φ : α → Prop} {v : α → Value} {B : α → List Res} (hf : P.funcs[f]? = some fn) (hb : fn.body = some k) (hn : fn.ntmps = n) (hl : Nat.ble vs.length n = true) (hw : OK w (fpL A) A w)
    (h : WC ⟨P, none, n, w, fpL A⟩ k (retS ⟨P, none, n, w, fpL A⟩ fn (fun e w' => ∃ x, Φ x ∧ e = .returned (v x) ∧ OK w (fpL A) (B x) w')) (args0 0 vs) [] A) : Fn P f vs A w Φ v B :=
  enterS hf hb hn hl hw h

theorem lift {α : Type} {Φ : α → Prop} {v : α → Value} {B : α → List Res} {fid : FuncId} {vs : List Value} (tk : TakeL H A F)
    (h : ∀ w, OK c.w0 c.S (A ++ F) w → Fn c.P fid vs A w Φ v B) :
    ∀ w, OK c.w0 c.S H w → Calls c.P fid vs.toArray w fun e w' => ∃ x, Φ x ∧ e = .returned (v x) ∧ OK c.w0 c.S (B x ++ F) w' := fun w hw => by
  have hw' := hw.perm tk.perm
  refine (h w hw').mono ?_
  rintro e w' ⟨x, h1, h2, h3⟩
  exact ⟨x, h1, h2, hw'.upd h3⟩

theorem WL.callC {f : Operand} {xs : List Operand} {ts : Array TypeId} {fid : FuncId} {cap : List Value} {vs : List Value} {α : Type} {Φ : α → Prop} {v : α → Value} {B : α → List Res}
    (hf : ev env f = some (.func (.func fid) #[] cap.toArray)) (hx : evs env xs = some vs) (he : ∀ args w, (callFunc fid args).run c.P w = .ok (.enter fid args) w)
    (tk : TakeL H A F) (h : ∀ w, OK c.w0 c.S (A ++ F) w → Fn c.P fid (vs ++ cap) A w Φ v B) (hn : Nat.blt d c.n = true)
    (k : ∀ x, Φ x → WL c ops Q rest ((d, v x) :: env) ds (B x ++ F)) :
    WL c ops Q (⟨some d, .call { callee := .value f, args := xs.toArray, argTypes := ts }, ty, pos, af, none⟩ :: rest) env ds H :=
  WL.call hf hx he (lift tk h) hn k

/-! ### Plain lists (the tails of regions that draw) -/

structure WP (c : Cx) (ops : Array Oper) (Q : SQ) (l : List Oper) (env : Env) (ds : List Deferred) (H : List Res) : Prop where
  run : ∀ a w, Has env c.n ds a → OK c.w0 c.S H w → wpList c.P ops (up c Q) l a w

theorem WP.nil (h : Q .normal env ds H) : WP c ops Q [] env ds H := ⟨fun _ _ ha hw => wpList_nil ⟨trivial, _, _, _, ha, hw, h⟩⟩

theorem WP.y {v : Value} (h : Yl c env ds H ⟨some d, op, ty, pos, af, none⟩ v) (hn : Nat.blt d c.n = true) (k : WP c ops Q rest ((d, v) :: env) ds H) : WP c ops Q (⟨some d, op, ty, pos, af, none⟩ :: rest) env ds H :=
  ⟨fun a w ha hw => wpList_plain rfl fun K hK => by
    unfold Oper.wp
    rw [h a w ha hw]
    exact hK _ _ (k.run _ _ (ha.put hn v) hw)⟩

theorem WP.to {α : Type} {v : α → Value} {H' : α → List Res} (h : To c env ds H ⟨some d, op, ty, pos, af, none⟩ v H') (hn : Nat.blt d c.n = true) (k : ∀ x, WP c ops Q rest ((d, v x) :: env) ds (H' x)) : WP c ops Q (⟨some d, op, ty, pos, af, none⟩ :: rest) env ds H :=
  ⟨fun a w ha hw => wpList_plain rfl fun K hK => by
    obtain ⟨x, w', h1, h2⟩ := h a w ha hw
    unfold Oper.wp
    rw [h1]
    exact hK _ _ ((k x).run _ _ (ha.put hn _) h2)⟩

theorem WP.sto {H' : List Res} (h : Sto c env ds H ⟨none, op, ty, pos, af, none⟩ H') (hd : ∀ cl, op ≠ .defer cl) (k : WP c ops Q rest env ds H') : WP c ops Q (⟨none, op, ty, pos, af, none⟩ :: rest) env ds H :=
  ⟨fun a w ha hw => wpList_plain rfl fun K hK => by
    obtain ⟨w', h1, h2⟩ := h a w ha hw
    unfold Oper.wp
    rw [h1]
    exact hK _ _ (k.run _ _ (ha.putNone _) h2)⟩

theorem WP.call {f : Operand} {xs : List Operand} {ts : Array TypeId} {fid : FuncId} {cap : List Value} {vs : List Value} {α : Type} {Φ : α → Prop} {v : α → Value} {H' : α → List Res}
    (hf : ev env f = some (.func (.func fid) #[] cap.toArray)) (hx : evs env xs = some vs) (he : ∀ args w, (callFunc fid args).run c.P w = .ok (.enter fid args) w)
    (h : ∀ w, OK c.w0 c.S H w → Calls c.P fid (vs ++ cap).toArray w fun e w' => ∃ x, Φ x ∧ e = .returned (v x) ∧ OK c.w0 c.S (H' x) w') (hn : Nat.blt d c.n = true)
    (k : ∀ x, Φ x → WP c ops Q rest ((d, v x) :: env) ds (H' x)) :
    WP c ops Q (⟨some d, .call { callee := .value f, args := xs.toArray, argTypes := ts }, ty, pos, af, none⟩ :: rest) env ds H :=
  ⟨fun a w ha hw => wpList_plain rfl fun K hK => by
    have e1 : (execOp a.eval ⟨some d, .call { callee := .value f, args := xs.toArray, argTypes := ts }, ty, pos, af, none⟩).run c.P w = .ok (.enter fid (vs ++ cap).toArray) w := by
      simp only [execOp, resolve, Deferred.ofValue, ha.ev hf, invoke, Sem.run_bind, Sem.run_pure, Result.andThen_ok, List.map_toArray, ha.evs hx, Array.empty_append, List.append_toArray, Array.append_empty]
      exact he _ w
    unfold Oper.wp
    rw [e1]
    refine Calls.mono (h w hw) ?_
    rintro e w' ⟨x, h1, rfl, h3⟩
    exact hK _ _ ((k x h1).run _ _ (ha.put hn _) h3)⟩

theorem WP.callC {f : Operand} {xs : List Operand} {ts : Array TypeId} {fid : FuncId} {cap : List Value} {vs : List Value} {α : Type} {Φ : α → Prop} {v : α → Value} {B : α → List Res}
    (hf : ev env f = some (.func (.func fid) #[] cap.toArray)) (hx : evs env xs = some vs) (he : ∀ args w, (callFunc fid args).run c.P w = .ok (.enter fid args) w)
    (tk : TakeL H A F) (h : ∀ w, OK c.w0 c.S (A ++ F) w → Fn c.P fid (vs ++ cap) A w Φ v B) (hn : Nat.blt d c.n = true)
    (k : ∀ x, Φ x → WP c ops Q rest ((d, v x) :: env) ds (B x ++ F)) :
    WP c ops Q (⟨some d, .call { callee := .value f, args := xs.toArray, argTypes := ts }, ty, pos, af, none⟩ :: rest) env ds H :=
  WP.call hf hx he (lift tk h) hn k

/-! ### Reads ahead of the tail -/

structure WH (c : Cx) (ops : Array Oper) (K : Env → Prop) (l : List Oper) (env : Env) (ds : List Deferred) (H : List Res) : Prop where
  run : ∀ a w, Has env c.n ds a → OK c.w0 c.S H w → wpStill c.P ops w (fun a' => ∃ env', Has env' c.n ds a' ∧ K env') l a

theorem WH.nil {K : Env → Prop} (h : K env) : WH c ops K [] env ds H := ⟨fun _ _ ha _ => ⟨env, ha, h⟩⟩

theorem WH.y {K : Env → Prop} {v : Value} (h : Yl c env ds H ⟨some d, op, ty, pos, af, none⟩ v) (hn : Nat.blt d c.n = true) (k : WH c ops K rest ((d, v) :: env) ds H) : WH c ops K (⟨some d, op, ty, pos, af, none⟩ :: rest) env ds H :=
  ⟨fun a w ha hw => wpStill_step fun K' hK => by
    have e1 : Region.wanted (⟨some d, op, ty, pos, af, none⟩ : Oper) (yielded ops a.tmps) = true := rfl
    rw [if_pos e1]
    unfold Oper.still
    rw [h a w ha hw, Oper.stillUpon_value]
    exact hK _ (k.run _ _ (ha.put hn v) hw)⟩

theorem WH.on {K : Env → Prop} {dst : Option Tmp} {j t : Nat} {b : Bool} (hj : (ops[j]?).bind (·.dst) = some t) (hv : Env.get env t = some (.bool b)) (k : WH c ops K (⟨dst, op, ty, pos, af, none⟩ :: rest) env ds H) : WH c ops K (⟨dst, op, ty, pos, af, some (j, b)⟩ :: rest) env ds H := by
  refine ⟨fun a w ha hw => ?_⟩
  have h := k.run a w ha hw
  have hy : yielded ops a.tmps j = some b := by
    unfold yielded
    rw [hj]
    simp [ha.2.2 t _ hv]
  have e1 : Region.wanted ⟨dst, op, ty, pos, af, some (j, b)⟩ (yielded ops a.tmps) = true := by simp [Region.wanted, hy]
  have e2 : Region.wanted ⟨dst, op, ty, pos, af, none⟩ (yielded ops a.tmps) = true := rfl
  unfold wpStill at h ⊢
  rw [if_pos e2] at h
  rw [if_pos e1]
  exact h

theorem WH.off {K : Env → Prop} {j t : Nat} {b b' : Bool} (hj : (ops[j]?).bind (·.dst) = some t) (hv : Env.get env t = some (.bool b')) (hb : (b' == b) = false) (hn : Nat.blt d c.n = true)
    (k : WH c ops K rest ((d, undef) :: env) ds H) : WH c ops K (⟨some d, op, ty, pos, af, some (j, b)⟩ :: rest) env ds H := by
  refine ⟨fun a w ha hw => ?_⟩
  have hy : yielded ops a.tmps j = some b' := by
    unfold yielded
    rw [hj]
    simp [ha.2.2 t _ hv]
  have e1 : ¬ (Region.wanted ⟨some d, op, ty, pos, af, some (j, b)⟩ (yielded ops a.tmps) = true) := by
    simp only [Region.wanted, hy]
    simpa using hb
  unfold wpStill
  rw [if_neg e1]
  exact k.run _ _ (ha.put hn undef) hw

theorem WH.say {K : Env → Prop} {l : List Oper} {t : Nat} {v v' : Value} (hv : Env.get env t = some v) (hb : v = v') (k : WH c ops K l ((t, v') :: env) ds H) : WH c ops K l env ds H := by
  subst hb
  exact ⟨fun a w ha hw => k.run a w ⟨ha.1, ha.2.1, fun s v hs => by
    unfold Env.get at hs
    cases hh : Nat.beq t s with
    | true => rw [hh] at hs; cases hs; rw [← Nat.eq_of_beq_eq_true hh]; exact ha.2.2 _ _ hv
    | false => rw [hh] at hs; exact ha.2.2 s v hs⟩ hw⟩
theorem WH.know {K : Env → Prop} {l : List Oper} {t : Nat} {b b' : Bool} (hv : Env.get env t = some (.bool b)) (hb : b = b') (k : WH c ops K l ((t, .bool b') :: env) ds H) : WH c ops K l env ds H := WH.say hv (by rw [hb]) k
theorem WH.both {K : Env → Prop} {l : List Oper} {t : Nat} {b : Bool} (hv : Env.get env t = some (.bool b)) (h1 : b = true → WH c ops K l ((t, .bool true) :: env) ds H) (h2 : b = false → WH c ops K l ((t, .bool false) :: env) ds H) : WH c ops K l env ds H := by
  cases b with
  | true => exact WH.know hv rfl (h1 rfl)
  | false => exact WH.know hv rfl (h2 rfl)
theorem WP.say {l : List Oper} {t : Nat} {v v' : Value} (hv : Env.get env t = some v) (hb : v = v') (k : WP c ops Q l ((t, v') :: env) ds H) : WP c ops Q l env ds H := by
  subst hb
  exact ⟨fun a w ha hw => k.run a w ⟨ha.1, ha.2.1, fun s v hs => by
    unfold Env.get at hs
    cases hh : Nat.beq t s with
    | true => rw [hh] at hs; cases hs; rw [← Nat.eq_of_beq_eq_true hh]; exact ha.2.2 _ _ hv
    | false => rw [hh] at hs; exact ha.2.2 s v hs⟩ hw⟩
theorem WP.know {l : List Oper} {t : Nat} {b b' : Bool} (hv : Env.get env t = some (.bool b)) (hb : b = b') (k : WP c ops Q l ((t, .bool b') :: env) ds H) : WP c ops Q l env ds H := WP.say hv (by rw [hb]) k

/-- A region that draws: reads, then a tail that goes in order. -/
theorem WC.drawTail {id : Nat} {l : List Oper} (m : Nat) (hm : c.P.follows .mixedOrders = true) (hB : (Region.lexTailB .any l.toArray m && noDefer l.toArray) = true)
    (h : WH c l.toArray (fun env' => WP c l.toArray Q (l.drop m) env' ds H) (l.take m) env ds H) : WC c (.region id l.toArray true) Q env ds H :=
  ⟨fun a w ha hw => wpIn_region_still_tail m (fun _ _ h => h.1) hm hB (wpStill_mono (fun a' ⟨env', h1, h2⟩ => h2.run a' _ h1 hw.drew) _ _ (h.run a _ ha hw.drew))⟩
where
  wpStill_mono {P : Program} {ops : Array Oper} {w : World} {Q Q' : Act → Prop} (hq : ∀ a, Q a → Q' a) : ∀ (l : List Oper) (a : Act), wpStill P ops w Q l a → wpStill P ops w Q' l a
    | [], a, h => hq a h
    | o :: l, a, h => by
      unfold wpStill at h ⊢
      split
      · rename_i hw; rw [if_pos hw] at h; exact Oper.still_mono (fun a => wpStill_mono hq l a) h
      · rename_i hw; rw [if_neg hw] at h; exact wpStill_mono hq l _ h

/-- A region that draws, of reads alone. -/
theorem WC.drawRead {id : Nat} {l : List Oper} (hm : c.P.follows .mixedOrders = true) (hB : (Region.lexB .any l.toArray && noDefer l.toArray) = true)
    (h : WH c l.toArray (fun env' => Q .normal env' ds H) l env ds H) : WC c (.region id l.toArray true) Q env ds H :=
  ⟨fun a w ha hw => wpIn_region_still_lit (fun _ _ h => h.1) hm hB (WC.drawTail.wpStill_mono (fun a' ⟨env', h1, h2⟩ => ⟨trivial, env', ds, H, h1, hw.drew, h2⟩) _ _ (h.run a _ ha hw.drew))⟩

/-! ### Whatever order comes up: S holds behind every operation; what reads under S alone may be taken first -/

structure WD (c : Cx) (ops : Array Oper) (Hs : List Res) (Q : SQ) (fuel : Nat) (listed : Array Bool) (env : Env) (ds : List Deferred) (H : List Res) : Prop where
  run : ∀ a w, Has env c.n ds a → OK c.w0 c.S H w → OK c.w0 c.S Hs w → wpAnyH c.P .any ops (up c Q) (OK c.w0 c.S Hs) fuel listed a w

theorem WC.drawAny {id : Nat} {l : List Oper} (Hs : List Res) (hm : c.P.follows .mixedOrders = true) (hd : noDefer l.toArray = true) (hs : ∃ F, TakeL H Hs F)
    (h : WD c l.toArray Hs Q l.toArray.size (Array.replicate l.toArray.size false) env ds H) : WC c (.region id l.toArray true) Q env ds H :=
  ⟨fun a w ha hw => wpIn_draw hm hd (fun _ _ h => h.1) (wpAny_of_held _ _ _ _ (h.run a _ ha hw.drew (by obtain ⟨F, t⟩ := hs; exact (hw.drew.perm t.perm).left)))⟩

variable {Hs : List Res} {fuel : Nat} {listed : Array Bool}

theorem WD.take {o : Oper} {v : Value} {dd : Nat} (i : Nat) (hi : ops[i]? = some o) (hs : Region.noSelect ops = true) (hf : Region.free .any ops listed i = true) (hr : (Region.ready .any ops listed).contains i = true)
    (hdst : o.dst = some dd) (hg : o.guard = none) (hy : Yl c env ds Hs o v) (hn : Nat.blt dd c.n = true)
    (k : WD c ops Hs Q fuel (listed.setIfInBounds i true) ((dd, v) :: env) ds H) : WD c ops Hs Q (fuel + 1) listed env ds H := by
  refine ⟨fun a w ha hw hS => ?_⟩
  refine wpAnyH_take hi hs hf hr (fun ch a w h => h.1.elim) (v := v) ?_ hS ?_
  · exact .inl ⟨by simp [Region.wanted, hg], fun w' hS' => hy a w' ha hS'⟩
  · rw [hdst]
    exact k.run _ _ (ha.put hn v) hw hS

/-- .. its three conditions as one. -/
theorem WD.tk {o : Oper} {v : Value} {dd : Nat} (i : Nat) (hi : ops[i]? = some o) (h3 : (Region.noSelect ops && Region.free .any ops listed i && (Region.ready .any ops listed).contains i) = true)
    (hdst : o.dst = some dd) (hg : o.guard = none) (hy : Yl c env ds Hs o v) (hn : Nat.blt dd c.n = true)
    (k : WD c ops Hs Q fuel (listed.setIfInBounds i true) ((dd, v) :: env) ds H) : WD c ops Hs Q (fuel + 1) listed env ds H := by
  rw [Bool.and_eq_true, Bool.and_eq_true] at h3
  exact WD.take i hi h3.1.1 h3.1.2 h3.2 hdst hg hy hn k
theorem WD.takeOn {o : Oper} {v : Value} {dd j t : Nat} {b : Bool} (i : Nat) (hi : ops[i]? = some o) (hs : Region.noSelect ops = true) (hf : Region.free .any ops listed i = true) (hr : (Region.ready .any ops listed).contains i = true)
    (hdst : o.dst = some dd) (hg : o.guard = some (j, b)) (hj : (ops[j]?).bind (·.dst) = some t) (hv : Env.get env t = some (.bool b)) (hy : Yl c env ds Hs o v) (hn : Nat.blt dd c.n = true)
    (k : WD c ops Hs Q fuel (listed.setIfInBounds i true) ((dd, v) :: env) ds H) : WD c ops Hs Q (fuel + 1) listed env ds H := by
  refine ⟨fun a w ha hw hS => ?_⟩
  refine wpAnyH_take hi hs hf hr (fun ch a w h => h.1.elim) (v := v) ?_ hS ?_
  · refine .inl ⟨?_, fun w' hS' => hy a w' ha hS'⟩
    have hy : yielded ops a.tmps j = some b := by
      unfold yielded
      rw [hj]
      simp [ha.2.2 t _ hv]
    simp [Region.wanted, hg, hy]
  · rw [hdst]
    exact k.run _ _ (ha.put hn v) hw hS

theorem WD.takeOff {o : Oper} {dd j t : Nat} {b b' : Bool} (i : Nat) (hi : ops[i]? = some o) (hs : Region.noSelect ops = true) (hf : Region.free .any ops listed i = true) (hr : (Region.ready .any ops listed).contains i = true)
    (hdst : o.dst = some dd) (hg : o.guard = some (j, b)) (hj : (ops[j]?).bind (·.dst) = some t) (hv : Env.get env t = some (.bool b')) (hb : (b' == b) = false) (hn : Nat.blt dd c.n = true)
    (k : WD c ops Hs Q fuel (listed.setIfInBounds i true) ((dd, undef) :: env) ds H) : WD c ops Hs Q (fuel + 1) listed env ds H := by
  refine ⟨fun a w ha hw hS => ?_⟩
  refine wpAnyH_take hi hs hf hr (fun ch a w h => h.1.elim) (v := undef) ?_ hS ?_
  · refine .inr ⟨?_, rfl⟩
    have hy : yielded ops a.tmps j = some b' := by
      unfold yielded
      rw [hj]
      simp [ha.2.2 t _ hv]
    simp only [Region.wanted, hg, hy]
    simpa using hb
  · rw [hdst]
    exact k.run _ _ (ha.put hn undef) hw hS

/-- Number i comes up. -/
def WO (c : Cx) (ops : Array Oper) (Hs : List Res) (Q : SQ) (fuel : Nat) (listed : Array Bool) (env : Env) (ds : List Deferred) (H : List Res) (i : Nat) : Prop :=
  ∀ a w, Has env c.n ds a → OK c.w0 c.S H w → OK c.w0 c.S Hs w → wpOp c.P ops (up c Q) i (fun a' w' => OK c.w0 c.S Hs w' ∧ wpAnyH c.P .any ops (up c Q) (OK c.w0 c.S Hs) fuel (listed.setIfInBounds i true) a' w') a w

theorem WD.all (rs : List Nat) (hr : Region.ready .any ops listed = rs) (hne : rs ≠ []) (h : ∀ i ∈ rs, WO c ops Hs Q fuel listed env ds H i) : WD c ops Hs Q (fuel + 1) listed env ds H :=
  ⟨fun a w ha hw hS => wpAnyH_all hr hne fun i hi => h i hi a w ha hw hS⟩

theorem WD.one (i : Nat) (hr : Region.ready .any ops listed = [i]) (h : WO c ops Hs Q fuel listed env ds H i) : WD c ops Hs Q (fuel + 1) listed env ds H :=
  WD.all [i] hr (by simp) fun j hj => by rw [List.mem_singleton.1 hj]; exact h
theorem WD.two (i j : Nat) (hr : Region.ready .any ops listed = [i, j]) (h1 : WO c ops Hs Q fuel listed env ds H i) (h2 : WO c ops Hs Q fuel listed env ds H j) : WD c ops Hs Q (fuel + 1) listed env ds H :=
  WD.all [i, j] hr (by simp) fun k hk => by
    simp at hk
    rcases hk with rfl | rfl
    · exact h1
    · exact h2
theorem WD.three (i j l : Nat) (hr : Region.ready .any ops listed = [i, j, l]) (h1 : WO c ops Hs Q fuel listed env ds H i) (h2 : WO c ops Hs Q fuel listed env ds H j) (h3 : WO c ops Hs Q fuel listed env ds H l) : WD c ops Hs Q (fuel + 1) listed env ds H :=
  WD.all [i, j, l] hr (by simp) fun k hk => by
    simp at hk
    rcases hk with rfl | rfl | rfl
    · exact h1
    · exact h2
    · exact h3

theorem WD.view {H' : List Res} (h : ∀ w, OK c.w0 c.S H w → OK c.w0 c.S H' w) (k : WD c ops Hs Q fuel listed env ds H') : WD c ops Hs Q fuel listed env ds H := ⟨fun a w ha hw hS => k.run a w ha (h w hw) hS⟩
theorem WD.say {t : Nat} {v v' : Value} (hv : Env.get env t = some v) (hb : v = v') (k : WD c ops Hs Q fuel listed ((t, v') :: env) ds H) : WD c ops Hs Q fuel listed env ds H := by
  subst hb
  exact ⟨fun a w ha hw hS => k.run a w ⟨ha.1, ha.2.1, fun s v hs => by
    unfold Env.get at hs
    cases hh : Nat.beq t s with
    | true => rw [hh] at hs; cases hs; rw [← Nat.eq_of_beq_eq_true hh]; exact ha.2.2 _ _ hv
    | false => rw [hh] at hs; exact ha.2.2 s v hs⟩ hw hS⟩
theorem WD.know {t : Nat} {b b' : Bool} (hv : Env.get env t = some (.bool b)) (hb : b = b') (k : WD c ops Hs Q fuel listed ((t, .bool b') :: env) ds H) : WD c ops Hs Q fuel listed env ds H := WD.say hv (by rw [hb]) k
theorem WD.both {t : Nat} {b : Bool} (hv : Env.get env t = some (.bool b)) (h1 : b = true → WD c ops Hs Q fuel listed ((t, .bool true) :: env) ds H) (h2 : b = false → WD c ops Hs Q fuel listed ((t, .bool false) :: env) ds H) : WD c ops Hs Q fuel listed env ds H := by
  cases b with
  | true => exact WD.know hv rfl (h1 rfl)
  | false => exact WD.know hv rfl (h2 rfl)

theorem WD.done (hr : Region.ready .any ops listed = []) (h : Q .normal env ds H) : WD c ops Hs Q fuel listed env ds H :=
  ⟨fun _ _ ha hw _ => wpAnyH_done hr ⟨trivial, env, ds, H, ha, hw, h⟩ fuel⟩

/-- A guard that lets an operation by. -/
inductive Gd (ops : Array Oper) (env : Env) : Option (Nat × Bool) → Prop
  | no : Gd ops env none
  | on {j t : Nat} {b : Bool} : (ops[j]?).bind (·.dst) = some t → Env.get env t = some (.bool b) → Gd ops env (some (j, b))
theorem Gd.wanted {ops : Array Oper} {env : Env} {o : Oper} (h : Gd ops env o.guard) {n : Nat} {ds : List Deferred} {a : Act} (ha : Has env n ds a) : Region.wanted o (yielded ops a.tmps) = true := by
  generalize hg : o.guard = g at h
  cases h with
  | no => simp [Region.wanted, hg]
  | @on j t b hj hv =>
    have hy : yielded ops a.tmps j = some b := by
      unfold yielded
      rw [hj]
      simp [ha.2.2 t _ hv]
    simp [Region.wanted, hg, hy]

theorem WO.off {i : Nat} {o : Oper} {dd j t : Nat} {b b' : Bool} (hi : ops[i]? = some o) (hdst : o.dst = some dd) (hg : o.guard = some (j, b)) (hj : (ops[j]?).bind (·.dst) = some t) (hv : Env.get env t = some (.bool b')) (hb : (b' == b) = false) (hn : Nat.blt dd c.n = true)
    (k : WD c ops Hs Q fuel (listed.setIfInBounds i true) ((dd, undef) :: env) ds H) : WO c ops Hs Q fuel listed env ds H i := fun a w ha hw hS => by
  have hy : yielded ops a.tmps j = some b' := by
    unfold yielded
    rw [hj]
    simp [ha.2.2 t _ hv]
  have e1 : ¬ (Region.wanted o (yielded ops a.tmps) = true) := by
    simp only [Region.wanted, hg, hy]
    simpa using hb
  unfold wpOp
  simp only [hi]
  rw [if_neg e1, hdst]
  exact ⟨hS, k.run _ _ (ha.put hn undef) hw hS⟩

theorem WO.to {α : Type} {i : Nat} {o : Oper} {dd : Nat} {v : α → Value} {H' : α → List Res} (hi : ops[i]? = some o) (hdst : o.dst = some dd) (hg : Gd ops env o.guard) (h : To c env ds H o v H') (hn : Nat.blt dd c.n = true) (hs : ∀ x, ∃ F, TakeL (H' x) Hs F)
    (k : ∀ x, WD c ops Hs Q fuel (listed.setIfInBounds i true) ((dd, v x) :: env) ds (H' x)) : WO c ops Hs Q fuel listed env ds H i := fun a w ha hw hS => by
  obtain ⟨x, w', h1, h2⟩ := h a w ha hw
  obtain ⟨F, t⟩ := hs x
  have hS' := (h2.perm t.perm).left
  unfold wpOp
  simp only [hi]
  rw [if_pos (hg.wanted ha)]
  refine .inl ?_
  unfold Oper.wp
  rw [h1]
  show OK c.w0 c.S Hs w' ∧ _
  rw [hdst]
  exact ⟨hS', (k x).run _ _ (ha.put hn _) h2 hS'⟩

theorem WO.y {i : Nat} {o : Oper} {dd : Nat} {v : Value} (hi : ops[i]? = some o) (hdst : o.dst = some dd) (hg : Gd ops env o.guard) (h : Yl c env ds H o v) (hn : Nat.blt dd c.n = true)
    (k : WD c ops Hs Q fuel (listed.setIfInBounds i true) ((dd, v) :: env) ds H) : WO c ops Hs Q fuel listed env ds H i := fun a w ha hw hS => by
  unfold wpOp
  simp only [hi]
  rw [if_pos (hg.wanted ha)]
  refine .inl ?_
  unfold Oper.wp
  rw [h a w ha hw]
  show OK c.w0 c.S Hs w ∧ _
  rw [hdst]
  exact ⟨hS, k.run _ _ (ha.put hn _) hw hS⟩

theorem WO.sto {i : Nat} {o : Oper} {H' : List Res} (hi : ops[i]? = some o) (hdst : o.dst = none) (hg : Gd ops env o.guard) (h : Sto c env ds H o H') (hs : ∃ F, TakeL H' Hs F)
    (k : WD c ops Hs Q fuel (listed.setIfInBounds i true) env ds H') : WO c ops Hs Q fuel listed env ds H i := fun a w ha hw hS => by
  obtain ⟨w', h1, h2⟩ := h a w ha hw
  obtain ⟨F, t⟩ := hs
  have hS' := (h2.perm t.perm).left
  unfold wpOp
  simp only [hi]
  rw [if_pos (hg.wanted ha)]
  refine .inl ?_
  unfold Oper.wp
  rw [h1]
  show OK c.w0 c.S Hs w' ∧ _
  rw [hdst]
  exact ⟨hS', k.run _ _ (ha.putNone _) h2 hS'⟩

theorem WO.call {i : Nat} {dd : Nat} {f : Operand} {xs : List Operand} {ts : Array TypeId} {fid : FuncId} {cap : List Value} {vs : List Value} {α : Type} {Φ : α → Prop} {v : α → Value} {H' : α → List Res} {gg : Option (Nat × Bool)}
    (hi : ops[i]? = some ⟨some dd, .call { callee := .value f, args := xs.toArray, argTypes := ts }, ty, pos, af, gg⟩) (hg : Gd ops env gg)
    (hf : ev env f = some (.func (.func fid) #[] cap.toArray)) (hx : evs env xs = some vs) (he : ∀ args w, (callFunc fid args).run c.P w = .ok (.enter fid args) w)
    (h : ∀ w, OK c.w0 c.S H w → Calls c.P fid (vs ++ cap).toArray w fun e w' => ∃ x, Φ x ∧ e = .returned (v x) ∧ OK c.w0 c.S (H' x) w') (hn : Nat.blt dd c.n = true) (hs : ∀ x, ∃ F, TakeL (H' x) Hs F)
    (k : ∀ x, Φ x → WD c ops Hs Q fuel (listed.setIfInBounds i true) ((dd, v x) :: env) ds (H' x)) : WO c ops Hs Q fuel listed env ds H i := fun a w ha hw hS => by
  unfold wpOp
  simp only [hi]
  rw [if_pos (hg.wanted (o := ⟨some dd, .call { callee := .value f, args := xs.toArray, argTypes := ts }, ty, pos, af, gg⟩) ha)]
  refine .inl ?_
  have e1 : (execOp a.eval ⟨some dd, .call { callee := .value f, args := xs.toArray, argTypes := ts }, ty, pos, af, gg⟩).run c.P w = .ok (.enter fid (vs ++ cap).toArray) w := by
    simp only [execOp, resolve, Deferred.ofValue, ha.ev hf, invoke, Sem.run_bind, Sem.run_pure, Result.andThen_ok, List.map_toArray, ha.evs hx, Array.empty_append, List.append_toArray, Array.append_empty]
    exact he _ w
  unfold Oper.wp
  rw [e1]
  refine Calls.mono (h w hw) ?_
  rintro e w' ⟨x, h1, rfl, h3⟩
  obtain ⟨F, t⟩ := hs x
  have hS' := (h3.perm t.perm).left
  exact ⟨hS', (k x h1).run _ _ (ha.put hn _) h3 hS'⟩

theorem WO.callC {i : Nat} {dd : Nat} {f : Operand} {xs : List Operand} {ts : Array TypeId} {fid : FuncId} {cap : List Value} {vs : List Value} {α : Type} {Φ : α → Prop} {v : α → Value} {B : α → List Res} {gg : Option (Nat × Bool)}
    (hi : ops[i]? = some ⟨some dd, .call { callee := .value f, args := xs.toArray, argTypes := ts }, ty, pos, af, gg⟩) (hg : Gd ops env gg)
    (hf : ev env f = some (.func (.func fid) #[] cap.toArray)) (hx : evs env xs = some vs) (he : ∀ args w, (callFunc fid args).run c.P w = .ok (.enter fid args) w)
    (tk : TakeL H A F) (h : ∀ w, OK c.w0 c.S (A ++ F) w → Fn c.P fid (vs ++ cap) A w Φ v B) (hn : Nat.blt dd c.n = true) (hs : ∀ x, ∃ F', TakeL (B x ++ F) Hs F')
    (k : ∀ x, Φ x → WD c ops Hs Q fuel (listed.setIfInBounds i true) ((dd, v x) :: env) ds (B x ++ F)) : WO c ops Hs Q fuel listed env ds H i :=
  WO.call hi hg hf hx he (lift tk h) hn hs k
end

end Go.Proofs.YtcplbkbimpiioaaGreatDoor
