/- A walk over abstract states: what is known of temporaries (Env) and of memory (resources with footprints): general lemmas of this claim's own, about no program in particular. -/
import Derived.Test.YtcplbkbimpiioaaGreatDoorLibE
namespace Go.Proofs.YtcplbkbimpiioaaGreatDoor
open Go Go.RowKit

/-! ### Memory: resources -/

/-- Something that is known of a few blocks: those it leans on, and those among them that a step on it may write. -/
structure Res where
  fp : Nat → Prop
  wr : Nat → Prop
  sub : ∀ k, wr k → fp k
  ok : World → Prop
  lt : ∀ w, ok w → ∀ k, fp k → k < w.heap.size
  st : ∀ w w' (D : Nat → Prop), ok w → Chg D w w' → (∀ k, fp k → ¬ D k) → ok w'

/-- Blocks of the beginning that may be written, and that may be leant on. -/
structure Pm where
  wr : Nat → Prop
  rd : Nat → Prop

def fpL (A : List Res) : Pm := ⟨fun k => ∃ r ∈ A, r.wr k, fun k => ∃ r ∈ A, r.fp k⟩

/-- w is w0 but for the blocks in S, and new ones; and the resources H hold, apart from each other. -/
structure OK (w0 : World) (S : Pm) (H : List Res) (w : World) : Prop where
  chg : Chg S.wr w0 w
  all : ∀ r ∈ H, r.ok w
  loc : ∀ r ∈ H, ∀ k, r.wr k → k < w0.heap.size → S.wr k
  locF : ∀ r ∈ H, ∀ k, r.fp k → k < w0.heap.size → S.rd k
  dis : H.Pairwise (fun r s => (∀ k, r.wr k → s.fp k → False) ∧ (∀ k, r.fp k → s.wr k → False))

theorem OK.nil (w : World) (S : Pm) : OK w S [] w := ⟨Chg.refl _ _, (fun _ h => nomatch h), (fun _ h => nomatch h), (fun _ h => nomatch h), List.Pairwise.nil⟩

theorem OK.perm {w0 : World} {S : Pm} {H H' : List Res} {w : World} (h : OK w0 S H w) (p : H.Perm H') : OK w0 S H' w :=
  ⟨h.chg, fun r hr => h.all r (p.mem_iff.2 hr), fun r hr => h.loc r (p.mem_iff.2 hr), fun r hr => h.locF r (p.mem_iff.2 hr), (p.pairwise_iff (fun {_ _} f => ⟨fun k a b => f.2 k b a, fun k a b => f.1 k b a⟩)).1 h.dis⟩

theorem OK.drop {w0 : World} {S : Pm} {A F : List Res} {w : World} (h : OK w0 S (A ++ F) w) : OK w0 S F w :=
  ⟨h.chg, fun r hr => h.all r (List.mem_append_right _ hr), fun r hr => h.loc r (List.mem_append_right _ hr), fun r hr => h.locF r (List.mem_append_right _ hr), (List.pairwise_append.1 h.dis).2.1⟩

theorem OK.left {w0 : World} {S : Pm} {A F : List Res} {w : World} (h : OK w0 S (A ++ F) w) : OK w0 S A w :=
  ⟨h.chg, fun r hr => h.all r (List.mem_append_left _ hr), fun r hr => h.loc r (List.mem_append_left _ hr), fun r hr => h.locF r (List.mem_append_left _ hr), (List.pairwise_append.1 h.dis).1⟩

/-- The part that a step looks at, as the step finds it. -/
theorem OK.here {w0 : World} {S : Pm} {A : List Res} {w : World} (h : OK w0 S A w) : OK w (fpL A) A w :=
  ⟨Chg.refl _ _, h.all, fun r hr _ hk _ => ⟨r, hr, hk⟩, fun r hr _ hk _ => ⟨r, hr, hk⟩, h.dis⟩

/-- A step that turns the resources A into B, and leaves all others as they were. -/
theorem OK.upd {w0 : World} {S : Pm} {A B F : List Res} {w w' : World} (h : OK w0 S (A ++ F) w) (h' : OK w (fpL A) B w') : OK w0 S (B ++ F) w' := by
  have hd := List.pairwise_append.1 h.dis
  refine ⟨h.chg.trans' h'.chg (fun _ _ e => e) ?_, ?_, ?_, ?_, List.pairwise_append.2 ⟨h'.dis, hd.2.1, ?_⟩⟩
  · rintro i hi ⟨r, hr, hk⟩
    exact h.loc r (List.mem_append_left _ hr) i hk hi
  · intro r hr
    rcases List.mem_append.1 hr with hr | hr
    · exact h'.all r hr
    · refine r.st w w' _ (h.all r (List.mem_append_right _ hr)) h'.chg fun k hk => ?_
      rintro ⟨s, hs, hsk⟩
      exact (hd.2.2 s hs r hr).1 k hsk hk
  · intro r hr k hk hlt
    rcases List.mem_append.1 hr with hr | hr
    · obtain ⟨s, hs, hsk⟩ := h'.loc r hr k hk (Nat.lt_of_lt_of_le hlt h.chg.size)
      exact h.loc s (List.mem_append_left _ hs) k hsk hlt
    · exact h.loc r (List.mem_append_right _ hr) k hk hlt
  · intro r hr k hk hlt
    rcases List.mem_append.1 hr with hr | hr
    · obtain ⟨s, hs, hsk⟩ := h'.locF r hr k hk (Nat.lt_of_lt_of_le hlt h.chg.size)
      exact h.locF s (List.mem_append_left _ hs) k hsk hlt
    · exact h.locF r (List.mem_append_right _ hr) k hk hlt
  · intro r hr s hs
    have hok := h.all s (List.mem_append_right _ hs)
    refine ⟨fun k hk hsk => ?_, fun k hk hsk => ?_⟩
    · obtain ⟨u, hu, huk⟩ := h'.loc r hr k hk (s.lt w hok k hsk)
      exact (hd.2.2 u hu s hs).1 k huk hsk
    · obtain ⟨u, hu, huk⟩ := h'.locF r hr k hk (s.lt w hok k (s.sub k hsk))
      exact (hd.2.2 u hu s hs).2 k huk hsk

theorem OK.ext {w0 : World} {S : Pm} {H : List Res} {w w' : World} (h : OK w0 S H w) (c : Chg noB w w') : OK w0 S H w' :=
  ⟨h.chg.trans' c (fun _ _ e => e) (fun _ _ e => e.elim), fun r hr => r.st w w' noB (h.all r hr) c (fun _ _ e => e), h.loc, h.locF, h.dis⟩

theorem OK.drew {w0 : World} {S : Pm} {H : List Res} {w : World} (h : OK w0 S H w) : OK w0 S H w.drew := h.ext (Chg.drew _ _)

theorem OK.rd {w0 : World} {S : Pm} {H : List Res} {w : World} (h : OK w0 S H w) {size : Nat} {v : Value} {n : Nat} {cs : List Value} (r : Rd w0 size v n cs) (hs : ∀ k, blk v k → ¬ S.wr k) : Rd w size v n cs := r.chg h.chg hs

/-- One resource taken out. -/
inductive Take1 : List Res → Res → List Res → Prop
  | head {r : Res} {H : List Res} : Take1 (r :: H) r H
  | tail {s r : Res} {H F : List Res} : Take1 H r F → Take1 (s :: H) r (s :: F)

inductive TakeL : List Res → List Res → List Res → Prop
  | nil {H : List Res} : TakeL H [] H
  | cons {r : Res} {H H' A F : List Res} : Take1 H r H' → TakeL H' A F → TakeL H (r :: A) F

theorem Take1.perm {r : Res} {H F : List Res} (h : Take1 H r F) : H.Perm (r :: F) := by
  induction h with
  | head => exact List.Perm.refl _
  | tail _ ih => exact (List.Perm.cons _ ih).trans (List.Perm.swap _ _ _)

theorem TakeL.perm {H A F : List Res} (h : TakeL H A F) : H.Perm (A ++ F) := by
  induction h with
  | nil => exact List.Perm.refl _
  | cons h1 _ ih => exact h1.perm.trans (List.Perm.cons _ ih)

theorem Take1.mem {r : Res} {H F : List Res} (h : Take1 H r F) : r ∈ H := h.perm.mem_iff.2 (List.mem_cons_self ..)

theorem OK.get {w0 : World} {S : Pm} {H F : List Res} {w : World} {r : Res} (h : OK w0 S H w) (t : Take1 H r F) : r.ok w := h.all r t.mem

/-- A block of cells, known whole. -/
def blkR (b : Nat) (T : TypeId) (cs : List Value) : Res where
  fp := fun k => b = k
  wr := fun k => b = k
  sub := fun _ h => h
  ok := fun w => w.heap[b]? = some (.cells cs.toArray T (0, 0))
  lt := fun w h k hk => by cases hk; exact lt_of_heap h
  st := fun w w' D h hc hd => hc.heap h (hd b rfl)

/-- A slice that is owned. -/
def ownR (v : Value) (e size n : Nat) (cs : List Value) : Res where
  fp := blk v
  wr := blk v
  sub := fun _ h => h
  ok := fun w => Sown w e size v n cs
  lt := fun w h k hk => h.lt k hk
  st := fun w w' D h hc hd => h.chg hc hd

theorem Rd.empty {w w' : World} {v : Value} {size n : Nat} {cs : List Value} (h : Rd w size v n cs) (h0 : cs = []) : Rd w' size v n cs := by
  subst h0
  refine ⟨h.1, ?_⟩
  rcases h.2 with h | ⟨a, cap, h1, h2, h3, _⟩
  · exact .inl h
  · exact .inr ⟨a, cap, h1, h2, h3, fun j u hj => by simp at hj⟩

theorem Rd.lt' {w : World} {size : Nat} {v : Value} {n : Nat} {cs : List Value} (h : Rd w size v n cs) (h0 : cs ≠ []) : ∀ k, blk v k → k < w.heap.size := by
  intro k hk
  rcases h.2 with ⟨rfl, _⟩ | ⟨a, cap, rfl, _, _, hc⟩
  · exact hk.elim
  · cases hk
    obtain ⟨u, us, rfl⟩ := List.exists_cons_of_ne_nil h0
    exact World.block_lt_of_cell? w ⟨a.block, a.off + 0, none⟩ (hc 0 u rfl).2

/-- A slice that may be read. -/
def rdR (v : Value) (size n : Nat) (cs : List Value) : Res where
  fp := fun k => blk v k ∧ cs ≠ []
  wr := noB
  sub := fun _ h => h.elim
  ok := fun w => Rd w size v n cs
  lt := fun w h k hk => h.lt' hk.2 k hk.1
  st := fun w w' D h hc hd => by
    by_cases h0 : cs = []
    · exact h.empty h0
    · exact h.chg hc (fun k hk => hd k ⟨hk, h0⟩)

/-- A block that is no row of cells. -/
def objR (b : Nat) (o : Obj) : Res where
  fp := fun k => b = k
  wr := fun k => b = k
  sub := fun _ h => h
  ok := fun w => w.heap[b]? = some o
  lt := fun w h k hk => by cases hk; exact lt_of_heap h
  st := fun w w' D h hc hd => hc.heap h (hd b rfl)

theorem OK.one {w w' : World} {S : Pm} {r : Res} (c : Chg S.wr w w') (h : r.ok w') (hl : ∀ k, r.wr k → k < w.heap.size → S.wr k) (hf : ∀ k, r.fp k → k < w.heap.size → S.rd k) : OK w S [r] w' :=
  ⟨c, fun s hs => by rw [List.mem_singleton.1 hs]; exact h, fun s hs => by rw [List.mem_singleton.1 hs]; exact hl, fun s hs => by rw [List.mem_singleton.1 hs]; exact hf, List.pairwise_singleton _ _⟩

theorem OK.zero {w w' : World} {S : Pm} (c : Chg S.wr w w') : OK w S [] w' := ⟨c, (fun _ h => nomatch h), (fun _ h => nomatch h), (fun _ h => nomatch h), List.Pairwise.nil⟩

/-- A resource that nobody writes may be held twice. -/
theorem OK.dup {w0 : World} {S : Pm} {H F : List Res} {w : World} {r : Res} (h : OK w0 S H w) (t : Take1 H r F) (hr : ∀ k, ¬ r.wr k) : OK w0 S (r :: H) w := by
  have hm := t.mem
  have hp := (t.perm.pairwise_iff (R := fun r s => (∀ k, r.wr k → s.fp k → False) ∧ (∀ k, r.fp k → s.wr k → False)) (fun {_ _} f => ⟨fun k a b => f.2 k b a, fun k a b => f.1 k b a⟩)).1 h.dis
  refine ⟨h.chg, ?_, ?_, ?_, List.pairwise_cons.2 ⟨fun s hs => ⟨fun k hk _ => hr k hk, fun k hk hsk => ?_⟩, h.dis⟩⟩
  · intro s hs
    rcases List.mem_cons.1 hs with rfl | hs
    · exact h.all _ hm
    · exact h.all s hs
  · intro s hs
    rcases List.mem_cons.1 hs with rfl | hs
    · exact h.loc _ hm
    · exact h.loc s hs
  · intro s hs
    rcases List.mem_cons.1 hs with rfl | hs
    · exact h.locF _ hm
    · exact h.locF s hs
  · rcases List.mem_cons.1 (t.perm.mem_iff.1 hs) with rfl | hs'
    · exact hr k hsk
    · exact ((List.pairwise_cons.1 hp).1 s hs').2 k hk hsk

/-! ### Temporaries -/

abbrev Env := List (Nat × Value)

def Env.get : Env → Nat → Option Value
  | [], _ => none
  | (t, v) :: r, s => bif Nat.beq t s then some v else Env.get r s

def Has (env : Env) (n : Nat) (ds : List Deferred) (a : Act) : Prop := a.tmps.size = n ∧ a.defers = ds ∧ ∀ t v, Env.get env t = some v → a.tmps[t]? = some v

def ev (env : Env) : Operand → Option Value
  | .tmp t => Env.get env t
  | .const v => some v
  | .global g => some (.pointer (some ⟨g, 0, none⟩))
  | .func f => some (.func (.func f) #[] #[])

def evs (env : Env) : List Operand → Option (List Value)
  | [] => some []
  | x :: xs => match ev env x, evs env xs with
    | some v, some vs => some (v :: vs)
    | _, _ => none

theorem Has.ev {env : Env} {n : Nat} {ds : List Deferred} {a : Act} (h : Has env n ds a) {x : Operand} {v : Value} (hx : ev env x = some v) : a.eval x = v := by
  cases x with
  | tmp t =>
    have := h.2.2 t v hx
    show a.tmps.getD t undef = v
    rw [Array.getD_eq_getD_getElem?, this]; rfl
  | const u => exact Option.some.inj hx
  | global g => exact Option.some.inj hx
  | func f => exact Option.some.inj hx

theorem Has.evs {env : Env} {n : Nat} {ds : List Deferred} {a : Act} (h : Has env n ds a) : ∀ {xs : List Operand} {vs : List Value}, evs env xs = some vs → xs.map a.eval = vs
  | [], vs, hx => by cases hx; rfl
  | x :: xs, vs, hx => by
    unfold Go.Proofs.YtcplbkbimpiioaaGreatDoor.evs at hx
    cases h1 : Go.Proofs.YtcplbkbimpiioaaGreatDoor.ev env x with
    | none => rw [h1] at hx; cases hx
    | some v =>
      cases h2 : Go.Proofs.YtcplbkbimpiioaaGreatDoor.evs env xs with
      | none => rw [h1, h2] at hx; cases hx
      | some us =>
        rw [h1, h2] at hx
        cases hx
        simp [h.ev h1, Has.evs h h2]

theorem Has.put {env : Env} {n : Nat} {ds : List Deferred} {a : Act} (h : Has env n ds a) {d : Nat} (hd : Nat.blt d n = true) (v : Value) : Has ((d, v) :: env) n ds (a.put (some d) v) := by
  have hd' : d < a.tmps.size := by rw [h.1]; exact Nat.le_of_ble_eq_true hd
  refine ⟨by simp [Act.put, h.1], by simp [Act.put, h.2.1], fun t u hu => ?_⟩
  show (a.tmps.setIfInBounds d v)[t]? = some u
  rw [Array.getElem?_setIfInBounds]
  unfold Env.get at hu
  by_cases e : d = t
  · subst e
    rw [show Nat.beq d d = true from Nat.beq_refl d] at hu
    cases hu
    simp [hd']
  · have : Nat.beq d t = false := by cases hb : Nat.beq d t; rfl; exact absurd (Nat.eq_of_beq_eq_true hb) e
    rw [this] at hu
    rw [if_neg e]
    exact h.2.2 t u hu

theorem Has.putNone {env : Env} {n : Nat} {ds : List Deferred} {a : Act} (h : Has env n ds a) (v : Value) : Has env n ds (a.put none v) := h

/-- What of an environment is kept. -/
inductive Sub : Env → Env → Prop
  | nil {env : Env} : Sub [] env
  | cons {t : Nat} {v : Value} {r env : Env} : Env.get env t = some v → Sub r env → Sub ((t, v) :: r) env

theorem Sub.get {e1 e2 : Env} (h : Sub e1 e2) : ∀ t v, Env.get e1 t = some v → Env.get e2 t = some v := by
  induction h with
  | nil => intro t v h; cases h
  | @cons t v r env hg _ ih =>
    intro s u hu
    unfold Env.get at hu
    cases hb : Nat.beq t s with
    | true => rw [hb] at hu; cases hu; rw [← Nat.eq_of_beq_eq_true hb]; exact hg
    | false => rw [hb] at hu; exact ih s u hu

theorem Has.sub {e1 e2 : Env} {n : Nat} {ds : List Deferred} {a : Act} (h : Has e2 n ds a) (hs : Sub e1 e2) : Has e1 n ds a := ⟨h.1, h.2.1, fun t v ht => h.2.2 t v (hs.get t v ht)⟩

/-! ### The judgements -/

structure Cx where
  P : Program
  ro : Option Nat
  n : Nat
  w0 : World
  S : Pm

abbrev SQ := Exit → Env → List Deferred → List Res → Prop

/-- No panic, no lack of room. -/
def fine : Exit → Prop
  | .outgrown => False
  | .panic _ => False
  | _ => True

def up (c : Cx) (Q : SQ) : Exit → Act → World → Prop := fun e a w => fine e ∧ ∃ env ds H, Has env c.n ds a ∧ OK c.w0 c.S H w ∧ Q e env ds H

structure WC (c : Cx) (k : Code) (Q : SQ) (env : Env) (ds : List Deferred) (H : List Res) : Prop where
  run : ∀ a w, Has env c.n ds a → OK c.w0 c.S H w → k.wpIn (FW c.ro) 0 c.P (up c Q) a w

structure WL (c : Cx) (ops : Array Oper) (Q : SQ) (l : List Oper) (env : Env) (ds : List Deferred) (H : List Res) : Prop where
  run : ∀ a w, Has env c.n ds a → OK c.w0 c.S H w → wpListIn (FW c.ro) 0 c.P ops (up c Q) l a w

def thenS (K : Env → List Deferred → List Res → Prop) (Q : SQ) : SQ
  | .normal => K
  | e => Q e

def blockS (id : Nat) (Q : SQ) : SQ
  | .exit i => bif Nat.beq i id then Q .normal else Q (.exit i)
  | e => Q e

section
variable {c : Cx} {Q : SQ} {env : Env} {ds : List Deferred} {H : List Res}

theorem WC.mono {Q' : SQ} {k : Code} (h : WC c k Q env ds H) (hq : ∀ e env ds H, Q e env ds H → Q' e env ds H) : WC c k Q' env ds H :=
  ⟨fun a w ha hw => Go.wpIn_mono (h.run a w ha hw) (fun e a w ⟨h0, env, ds, H, h1, h2, h3⟩ => ⟨h0, env, ds, H, h1, h2, hq e env ds H h3⟩)⟩

theorem WC.seq {x y : Code} (h : WC c x (thenS (WC c y Q) Q) env ds H) : WC c (.seq x y) Q env ds H :=
  ⟨fun a w ha hw => wpIn_seq (Go.wpIn_mono (h.run a w ha hw) (by
    rintro e a w ⟨h0, env, ds, H, h1, h2, h3⟩
    cases e with
    | normal => exact h3.run a w h1 h2
    | exit i => exact ⟨h0, _, _, _, h1, h2, h3⟩
    | goto l => exact ⟨h0, _, _, _, h1, h2, h3⟩
    | ret => exact ⟨h0, _, _, _, h1, h2, h3⟩
    | panic ch => exact h0.elim
    | outgrown => exact h0.elim))⟩

theorem WC.block {id : Nat} {k : Code} (h : WC c k (blockS id Q) env ds H) : WC c (.block id k) Q env ds H :=
  ⟨fun a w ha hw => wpIn_block (Go.wpIn_mono (h.run a w ha hw) (by
    rintro e a w ⟨h0, env, ds, H, h1, h2, h3⟩
    cases e with
    | normal => exact ⟨h0, _, _, _, h1, h2, h3⟩
    | exit i =>
      show (if i = id then up c Q .normal a w else up c Q (.exit i) a w)
      have h3' : (bif Nat.beq i id then Q .normal else Q (.exit i)) env ds H := h3
      by_cases e : i = id
      · rw [if_pos e]
        rw [show Nat.beq i id = true by rw [e]; exact Nat.beq_refl id] at h3'
        exact ⟨trivial, _, _, _, h1, h2, h3'⟩
      · rw [if_neg e]
        rw [show Nat.beq i id = false by cases hb : Nat.beq i id; rfl; exact absurd (Nat.eq_of_beq_eq_true hb) e] at h3'
        exact ⟨trivial, _, _, _, h1, h2, h3'⟩
    | goto l => exact ⟨h0, _, _, _, h1, h2, h3⟩
    | ret => exact ⟨h0, _, _, _, h1, h2, h3⟩
    | panic ch => exact h0.elim
    | outgrown => exact h0.elim))⟩

theorem WC.skip (h : Q .normal env ds H) : WC c .skip Q env ds H := ⟨fun _ _ ha hw => wpIn_skip ⟨trivial, _, _, _, ha, hw, h⟩⟩
theorem WC.ret (h : Q .ret env ds H) : WC c .ret Q env ds H := ⟨fun _ _ ha hw => wpIn_ret ⟨trivial, _, _, _, ha, hw, h⟩⟩
theorem WC.exit {id : Nat} (h : Q (.exit id) env ds H) : WC c (.exit id) Q env ds H := ⟨fun _ _ ha hw => wpIn_exit ⟨trivial, _, _, _, ha, hw, h⟩⟩

theorem WC.cond {x : Operand} {k1 k2 : Code} {t : Bool} (hx : ev env x = some (.bool t)) (h1 : t = true → WC c k1 Q env ds H) (h2 : t = false → WC c k2 Q env ds H) : WC c (.cond x k1 k2) Q env ds H :=
  ⟨fun a w ha hw => wpIn_cond_split (ha.ev hx) (fun h => (h1 h).run a w ha hw) (fun h => (h2 h).run a w ha hw)⟩

theorem WC.condD {x : Operand} {k1 k2 : Code} {p : Prop} [Decidable p] (hx : ev env x = some (.bool (decide p))) (h1 : p → WC c k1 Q env ds H) (h2 : ¬ p → WC c k2 Q env ds H) : WC c (.cond x k1 k2) Q env ds H :=
  WC.cond hx (fun h => h1 (of_decide_eq_true h)) (fun h => h2 (of_decide_eq_false h))

theorem WC.condT {x : Operand} {k1 k2 : Code} {t : Bool} (hx : ev env x = some (.bool t)) (ht : t = true) (h1 : WC c k1 Q env ds H) : WC c (.cond x k1 k2) Q env ds H :=
  WC.cond hx (fun _ => h1) (fun h => by rw [ht] at h; cases h)
theorem WC.condF {x : Operand} {k1 k2 : Code} {t : Bool} (hx : ev env x = some (.bool t)) (ht : t = false) (h1 : WC c k2 Q env ds H) : WC c (.cond x k1 k2) Q env ds H :=
  WC.cond hx (fun h => by rw [ht] at h; cases h) (fun _ => h1)

theorem peelT {K : Env → List Deferred → List Res → Prop} (h : Q .ret env ds H) : thenS K Q .ret env ds H := h
theorem peelB {id : Nat} (h : Q .ret env ds H) : blockS id Q .ret env ds H := h

theorem peelTX {K : Env → List Deferred → List Res → Prop} {i : Nat} (h : Q (.exit i) env ds H) : thenS K Q (.exit i) env ds H := h
theorem peelBX {id : Nat} (h : Q .normal env ds H) : blockS id Q (.exit id) env ds H := by
  show (bif Nat.beq id id then Q .normal else Q (.exit id)) env ds H
  rw [Nat.beq_refl id]; exact h
theorem peelBN {id : Nat} (h : Q .normal env ds H) : blockS id Q .normal env ds H := h
theorem peelBO {i id : Nat} (hi : Nat.beq i id = false) (h : Q (.exit i) env ds H) : blockS id Q (.exit i) env ds H := by
  show (bif Nat.beq i id then Q .normal else Q (.exit i)) env ds H
  rw [hi]; exact h

/-- Less is known from here on. -/
theorem WC.weaken {k : Code} {env' : Env} {H' F : List Res} (hs : Sub env' env) (ht : TakeL H H' F) (h : WC c k Q env' ds H') : WC c k Q env ds H :=
  ⟨fun a w ha hw => h.run a w (ha.sub hs) (hw.perm ht.perm).left⟩

/-- A state, said anew: at a loop's head, behind ways that meet. -/
structure Fits (env' : Env) (H' : List Res) (env : Env) (H : List Res) : Prop where
  sub : Sub env' env
  res : ∃ F, TakeL H H' F

theorem WC.loop {k : Code} {α : Type} (I : α → Env) (R : α → List Res) (ok : α → Prop) (μ : α → Nat) (x0 : α) (h0 : ok x0) (hf : Fits (I x0) (R x0) env H)
    (round : ∀ x, ok x → WC c k (thenS (fun env' ds' H' => ds' = ds ∧ ∃ y, ok y ∧ μ y < μ x ∧ Fits (I y) (R y) env' H') Q) (I x) ds (R x)) : WC c (.loop k) Q env ds H := by
  refine ⟨fun a w ha hw => ?_⟩
  have key : ∀ (x : α) a w, ok x → Has (I x) c.n ds a → OK c.w0 c.S (R x) w → (Code.loop k).wpIn (FW c.ro) 0 c.P (up c Q) a w := by
    intro x a w hx ha hw
    refine wpIn_loop (fun a w => ∃ x, ok x ∧ Has (I x) c.n ds a ∧ OK c.w0 c.S (R x) w) (fun a w => Classical.epsilon (fun m => ∃ x, ok x ∧ Has (I x) c.n ds a ∧ OK c.w0 c.S (R x) w ∧ μ x = m ∧ ∀ y, ok y → Has (I y) c.n ds a → OK c.w0 c.S (R y) w → m ≤ μ y)) ⟨x, hx, ha, hw⟩ ?_
    have hmin : ∀ a w, (∃ x, ok x ∧ Has (I x) c.n ds a ∧ OK c.w0 c.S (R x) w) → ∃ m, ∃ x, ok x ∧ Has (I x) c.n ds a ∧ OK c.w0 c.S (R x) w ∧ μ x = m ∧ ∀ y, ok y → Has (I y) c.n ds a → OK c.w0 c.S (R y) w → m ≤ μ y := by
      intro a w ⟨x, h1, h2, h3⟩
      generalize hm : μ x = m
      induction m using Nat.strongRecOn generalizing x with
      | _ m ih =>
        by_cases hh : ∃ y, ok y ∧ Has (I y) c.n ds a ∧ OK c.w0 c.S (R y) w ∧ μ y < m
        · obtain ⟨y, g1, g2, g3, g4⟩ := hh
          exact ih (μ y) g4 y g1 g2 g3 rfl
        · refine ⟨m, x, h1, h2, h3, hm, fun y g1 g2 g3 => ?_⟩
          apply Nat.le_of_not_lt
          intro g4
          exact hh ⟨y, g1, g2, g3, g4⟩
    intro a w hI
    obtain ⟨x, h1, h2, h3, h4, h5⟩ := Classical.epsilon_spec (hmin a w hI)
    refine Go.wpIn_mono ((round x h1).run a w h2 h3) ?_
    rintro e a' w' ⟨h0, env', ds', H', g1, g2, g3⟩
    cases e with
    | normal =>
      obtain ⟨rfl, y, k1, k2, ⟨k3, F, k4⟩⟩ := g3
      have hI' : ∃ x, ok x ∧ Has (I x) c.n ds' a' ∧ OK c.w0 c.S (R x) w' := ⟨y, k1, g1.sub k3, (g2.perm k4.perm).left⟩
      refine ⟨hI', ?_⟩
      obtain ⟨x', _, _, _, _, l5⟩ := Classical.epsilon_spec (hmin a' w' hI')
      have := l5 y k1 (g1.sub k3) (g2.perm k4.perm).left
      omega
    | exit i => exact ⟨h0, _, _, _, g1, g2, g3⟩
    | goto l => exact ⟨h0, _, _, _, g1, g2, g3⟩
    | ret => exact ⟨h0, _, _, _, g1, g2, g3⟩
    | panic ch => exact h0.elim
    | outgrown => exact h0.elim
  obtain ⟨hs, F, ht⟩ := hf
  exact key x0 a w h0 (ha.sub hs) (hw.perm ht.perm).left

theorem WC.region {id : Nat} {l : List Oper} (h : WL c l.toArray Q l env ds H) : WC c (.region id l.toArray false) Q env ds H :=
  ⟨fun a w ha hw => wpIn_region_lit (h.run a w ha hw)⟩

theorem WL.nil {ops : Array Oper} (h : Q .normal env ds H) : WL c ops Q [] env ds H := ⟨fun _ _ ha hw => wpListIn_nil ⟨trivial, _, _, _, ha, hw, h⟩⟩

theorem WL.weaken {ops : Array Oper} {l : List Oper} {env' : Env} {H' F : List Res} (hs : Sub env' env) (ht : TakeL H H' F) (h : WL c ops Q l env' ds H') : WL c ops Q l env ds H :=
  ⟨fun a w ha hw => h.run a w (ha.sub hs) (hw.perm ht.perm).left⟩

end

/-! ### Steps -/

/-- In every world of the state the operation yields v, and leaves the very world. -/
def Yl (c : Cx) (env : Env) (ds : List Deferred) (H : List Res) (o : Oper) (v : Value) : Prop := ∀ a w, Has env c.n ds a → OK c.w0 c.S H w → (execOp a.eval o).run c.P w = .ok (.value v) w

/-- The operation yields something, and turns the resources. -/
def To (c : Cx) (env : Env) (ds : List Deferred) (H : List Res) (o : Oper) {α : Type} (v : α → Value) (H' : α → List Res) : Prop :=
  ∀ a w, Has env c.n ds a → OK c.w0 c.S H w → ∃ x w', (execOp a.eval o).run c.P w = .ok (.value (v x)) w' ∧ OK c.w0 c.S (H' x) w'

theorem semAt_value {ro : Option Nat} {ρ : Operand → Value} {o : Oper} {P : Program} {w w' : World} {v : Value} (h : (execOp ρ o).run P w = .ok (.value v) w') : (o.semAt ro ρ).run P w = .ok (.value v) w' := by
  have hn : ∀ cl, o.op ≠ .defer cl := by
    intro cl hc
    unfold execOp at h
    simp only [hc] at h
    cases hr : (resolve ρ cl o.type).run P w with
    | ok d w2 => simp [hr, Result.andThen] at h
    | halt x w2 => simp [hr, Result.andThen] at h
  have := Oper.semAt_plain (FW ro) ρ o hn
  rw [show o.semAt ro ρ = execOp ρ o from this]
  exact h

theorem semAt_skip {ro : Option Nat} {ρ : Operand → Value} {o : Oper} {P : Program} {w w' : World} (hn : ∀ cl, o.op ≠ .defer cl) (h : (execOp ρ o).run P w = .ok .skip w') : (o.semAt ro ρ).run P w = .ok .skip w' := by
  have := Oper.semAt_plain (FW ro) ρ o hn
  rw [show o.semAt ro ρ = execOp ρ o from this]
  exact h

section
variable {c : Cx} {Q : SQ} {env : Env} {ds : List Deferred} {H : List Res} {ops : Array Oper} {rest : List Oper} {d : Nat} {op : Op} {ty : TypeId} {pos : String} {af : Array Edge}

theorem WL.y {v : Value} (h : Yl c env ds H ⟨some d, op, ty, pos, af, none⟩ v) (hn : Nat.blt d c.n = true) (k : WL c ops Q rest ((d, v) :: env) ds H) : WL c ops Q (⟨some d, op, ty, pos, af, none⟩ :: rest) env ds H :=
  ⟨fun a w ha hw => wpListIn_plain rfl fun K hK => ⟨fun _ _ => trivial, by
    rw [semAt_value (h a w ha hw)]
    exact hK _ _ (k.run _ _ (ha.put hn v) hw)⟩⟩

theorem WL.to {α : Type} {v : α → Value} {H' : α → List Res} (h : To c env ds H ⟨some d, op, ty, pos, af, none⟩ v H') (hn : Nat.blt d c.n = true) (k : ∀ x, WL c ops Q rest ((d, v x) :: env) ds (H' x)) : WL c ops Q (⟨some d, op, ty, pos, af, none⟩ :: rest) env ds H :=
  ⟨fun a w ha hw => wpListIn_plain rfl fun K hK => ⟨fun _ _ => trivial, by
    obtain ⟨x, w', h1, h2⟩ := h a w ha hw
    rw [semAt_value h1]
    exact hK _ _ ((k x).run _ _ (ha.put hn _) h2)⟩⟩

/-- A store. -/
def Sto (c : Cx) (env : Env) (ds : List Deferred) (H : List Res) (o : Oper) (H' : List Res) : Prop :=
  ∀ a w, Has env c.n ds a → OK c.w0 c.S H w → ∃ w', (execOp a.eval o).run c.P w = .ok .skip w' ∧ OK c.w0 c.S H' w'

theorem WL.sto {H' : List Res} (h : Sto c env ds H ⟨none, op, ty, pos, af, none⟩ H') (hd : ∀ cl, op ≠ .defer cl) (k : WL c ops Q rest env ds H') : WL c ops Q (⟨none, op, ty, pos, af, none⟩ :: rest) env ds H :=
  ⟨fun a w ha hw => wpListIn_plain rfl fun K hK => ⟨fun _ _ => trivial, by
    obtain ⟨w', h1, h2⟩ := h a w ha hw
    rw [semAt_skip hd h1]
    exact hK _ _ (k.run _ _ (ha.putNone _) h2)⟩⟩

/-- A guarded operation that is wanted is one without a guard. -/
theorem WL.on {dst : Option Tmp} {j t : Nat} {b : Bool} (hj : (ops[j]?).bind (·.dst) = some t) (hv : Env.get env t = some (.bool b)) (k : WL c ops Q (⟨dst, op, ty, pos, af, none⟩ :: rest) env ds H) : WL c ops Q (⟨dst, op, ty, pos, af, some (j, b)⟩ :: rest) env ds H := by
  refine ⟨fun a w ha hw => ?_⟩
  have h := k.run a w ha hw
  have hy : yielded ops a.tmps j = some b := by
    unfold yielded
    rw [hj]
    simp [ha.2.2 t _ hv]
  have e1 : Region.wanted ⟨dst, op, ty, pos, af, some (j, b)⟩ (yielded ops a.tmps) = true := by simp [Region.wanted, hy]
  have e2 : Region.wanted ⟨dst, op, ty, pos, af, none⟩ (yielded ops a.tmps) = true := rfl
  unfold wpListIn at h ⊢
  rw [if_pos e2] at h
  rw [if_pos e1]
  exact h

/-- One that isn't wanted yields nothing. -/
theorem WL.off {j t : Nat} {b b' : Bool} (hj : (ops[j]?).bind (·.dst) = some t) (hv : Env.get env t = some (.bool b')) (hb : (b' == b) = false) (hn : Nat.blt d c.n = true)
    (k : WL c ops Q rest ((d, undef) :: env) ds H) : WL c ops Q (⟨some d, op, ty, pos, af, some (j, b)⟩ :: rest) env ds H := by
  refine ⟨fun a w ha hw => ?_⟩
  have hy : yielded ops a.tmps j = some b' := by
    unfold yielded
    rw [hj]
    simp [ha.2.2 t _ hv]
  have e1 : ¬ (Region.wanted ⟨some d, op, ty, pos, af, some (j, b)⟩ (yielded ops a.tmps) = true) := by
    simp only [Region.wanted, hy]
    simpa using hb
  unfold wpListIn
  rw [if_neg e1]
  exact ⟨fun _ _ => trivial, k.run _ _ (ha.put hn undef) hw⟩

/-- A test's answer, known. -/
theorem WL.know {l : List Oper} {t : Nat} {b b' : Bool} (hv : Env.get env t = some (.bool b)) (hb : b = b') (k : WL c ops Q l ((t, .bool b') :: env) ds H) : WL c ops Q l env ds H := by
  subst hb
  exact ⟨fun a w ha hw => k.run a w ⟨ha.1, ha.2.1, fun s v hs => by
    unfold Env.get at hs
    cases hh : Nat.beq t s with
    | true => rw [hh] at hs; cases hs; rw [← Nat.eq_of_beq_eq_true hh]; exact ha.2.2 _ _ hv
    | false => rw [hh] at hs; exact ha.2.2 s v hs⟩ hw⟩
/-- A value, said anew. -/
theorem WL.say {l : List Oper} {t : Nat} {v v' : Value} (hv : Env.get env t = some v) (hb : v = v') (k : WL c ops Q l ((t, v') :: env) ds H) : WL c ops Q l env ds H := by
  subst hb
  exact ⟨fun a w ha hw => k.run a w ⟨ha.1, ha.2.1, fun s v hs => by
    unfold Env.get at hs
    cases hh : Nat.beq t s with
    | true => rw [hh] at hs; cases hs; rw [← Nat.eq_of_beq_eq_true hh]; exact ha.2.2 _ _ hv
    | false => rw [hh] at hs; exact ha.2.2 s v hs⟩ hw⟩
/-- Both answers, each on its way. -/
theorem WL.both {l : List Oper} {t : Nat} {b : Bool} (hv : Env.get env t = some (.bool b)) (h1 : b = true → WL c ops Q l ((t, .bool true) :: env) ds H) (h2 : b = false → WL c ops Q l ((t, .bool false) :: env) ds H) : WL c ops Q l env ds H := by
  cases b with
  | true => exact WL.know hv rfl (h1 rfl)
  | false => exact WL.know hv rfl (h2 rfl)

/-- Ways that meet: what is known behind x. -/
theorem WC.mid {x y : Code} (env1 : Env) (H1 : List Res) (h : WC c x (thenS (fun env' ds' H' => ds' = ds ∧ Fits env1 H1 env' H') Q) env ds H) (k : WC c y Q env1 ds H1) : WC c (.seq x y) Q env ds H :=
  WC.seq (h.mono (by
    intro e env' ds' H' hq
    cases e with
    | normal =>
      obtain ⟨rfl, hs, F, ht⟩ := hq
      exact WC.weaken hs ht k
    | _ => exact hq))

theorem Sub.app {e1 e2 env : Env} (h1 : Sub e1 env) (h2 : Sub e2 env) : Sub (e1 ++ e2) env := by
  induction h1 with
  | nil => exact h2
  | cons hg _ ih => exact .cons hg (ih h2)

/-- Ways that meet: a few values more than before, the resources as they were, or said anew. -/
theorem WC.midK {x y : Code} (new : Env) (H1 : List Res) (h : WC c x (thenS (fun env' ds' H' => ds' = ds ∧ Sub new env' ∧ Sub env env' ∧ ∃ F, TakeL H' H1 F) Q) env ds H) (k : WC c y Q (new ++ env) ds H1) : WC c (.seq x y) Q env ds H :=
  WC.mid (new ++ env) H1 (h.mono (by
    intro e env' ds' H' hq
    cases e with
    | normal => exact ⟨hq.1, hq.2.1.app hq.2.2.1, hq.2.2.2⟩
    | _ => exact hq)) k

/-- A call: the contract in every world of the state. -/
theorem WL.call {f : Operand} {xs : List Operand} {ts : Array TypeId} {fid : FuncId} {cap : List Value} {vs : List Value} {α : Type} {Φ : α → Prop} {v : α → Value} {H' : α → List Res}
    (hf : ev env f = some (.func (.func fid) #[] cap.toArray)) (hx : evs env xs = some vs) (he : ∀ args w, (callFunc fid args).run c.P w = .ok (.enter fid args) w)
    (h : ∀ w, OK c.w0 c.S H w → Calls c.P fid (vs ++ cap).toArray w fun e w' => ∃ x, Φ x ∧ e = .returned (v x) ∧ OK c.w0 c.S (H' x) w') (hn : Nat.blt d c.n = true)
    (k : ∀ x, Φ x → WL c ops Q rest ((d, v x) :: env) ds (H' x)) :
    WL c ops Q (⟨some d, .call { callee := .value f, args := xs.toArray, argTypes := ts }, ty, pos, af, none⟩ :: rest) env ds H :=
  ⟨fun a w ha hw => wpListIn_plain rfl fun K hK => ⟨fun _ _ => trivial, by
    rw [Oper.semAt_plain (FW c.ro) _ _ (by intro cl hc; cases hc)]
    have e1 : (execOp a.eval ⟨some d, .call { callee := .value f, args := xs.toArray, argTypes := ts }, ty, pos, af, none⟩).run c.P w = .ok (.enter fid (vs ++ cap).toArray) w := by
      simp only [execOp, resolve, Deferred.ofValue, ha.ev hf, invoke, Sem.run_bind, Sem.run_pure, Result.andThen_ok, List.map_toArray, ha.evs hx, Array.empty_append, List.append_toArray, Array.append_empty]
      exact he _ w
    rw [e1]
    refine ⟨fun h => by simp at h, callsIn_fw (ro := c.ro) (n := 0 - 1) (Calls.mono (h w hw) ?_)⟩
    rintro e w' ⟨x, h1, rfl, h3⟩
    exact hK _ _ ((k x h1).run _ _ (ha.put hn _) h3)⟩⟩
end

end Go.Proofs.YtcplbkbimpiioaaGreatDoor
