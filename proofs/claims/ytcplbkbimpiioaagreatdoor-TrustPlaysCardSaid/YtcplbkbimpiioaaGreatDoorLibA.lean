/- A frame relation between worlds (Chg), and one rule for ranges over functions: general lemmas of this claim's own, about no program in particular. -/
import Derived.RangeFuncNested
import Derived.RangeFuncBound
import Derived.RangeFuncCalls
import Derived.RangeFuncLeaves
import Derived.WalkKit
import Derived.OwnWalkIn
import Derived.TacticsInMore
import Derived.LoopNIn
import Derived.LoopIn
import Derived.BigQuiet
import Derived.Deep.QuietTactic
import Derived.BigRegion
import Derived.Lib.Hide
import Derived.Shelf.RegionOpen
import Derived.StillTailTactics
import Derived.Deep.RegionWith
import Derived.Deep.RegionLaw
import Derived.Deep.RegionHeld3
import Derived.Deep.DeepMust
import Derived.Deep.DeepFit
import Derived.Deep.DeepCutAuto
namespace Go.Proofs.YtcplbkbimpiioaaGreatDoor
open Go Go.RowKit

/-- w' is w but for the blocks in S, and new ones. -/
structure Chg (S : Nat → Prop) (w w' : World) : Prop where
  os : w'.os = w.os
  tape : w'.tape = w.tape
  output : w'.output = w.output
  size : w.heap.size ≤ w'.heap.size
  block : ∀ k, k < w.heap.size → ¬ S k → w'.heap[k]? = w.heap[k]?

def noB : Nat → Prop := fun _ => False
def oneB (b : Nat) : Nat → Prop := fun k => k = b
theorem Chg.refl (S : Nat → Prop) (w : World) : Chg S w w := ⟨rfl, rfl, rfl, Nat.le_refl _, fun _ _ _ => rfl⟩

theorem Chg.trans {S : Nat → Prop} {a b c : World} (h : Chg S a b) (k : Chg S b c) : Chg S a c :=
  ⟨k.os.trans h.os, k.tape.trans h.tape, k.output.trans h.output, Nat.le_trans h.size k.size,
   fun i hi hs => (k.block i (Nat.lt_of_lt_of_le hi h.size) hs).trans (h.block i hi hs)⟩

/-- The second step may touch what the first one laid. -/
theorem Chg.trans' {S T U : Nat → Prop} {a b c : World} (h : Chg S a b) (k : Chg T b c) (hs : ∀ i, i < a.heap.size → S i → U i) (ht : ∀ i, i < a.heap.size → T i → U i) : Chg U a c :=
  ⟨k.os.trans h.os, k.tape.trans h.tape, k.output.trans h.output, Nat.le_trans h.size k.size,
   fun i hi hu => (k.block i (Nat.lt_of_lt_of_le hi h.size) (fun e => hu (ht i hi e))).trans (h.block i hi (fun e => hu (hs i hi e)))⟩

theorem Chg.mono {S T : Nat → Prop} {a b : World} (h : Chg S a b) (hs : ∀ i, i < a.heap.size → S i → T i) : Chg T a b :=
  ⟨h.os, h.tape, h.output, h.size, fun i hi ht => h.block i hi (fun e => ht (hs i hi e))⟩

/-- A step that writes nothing that lay in W. -/
theorem Chg.step {S : Nat → Prop} {W a b : World} (h : Chg noB W a) (k : Chg S a b) (hs : ∀ i, S i → W.heap.size ≤ i) : Chg noB W b :=
  h.trans' k (fun _ _ e => e) (fun i hi e => by have := hs i e; omega)

theorem Chg.alloc (S : Nat → Prop) (w : World) (o : Obj) : Chg S w (w.alloc o) :=
  ⟨rfl, rfl, rfl, by simp, fun k hk _ => Below.heap_alloc _ _ _ hk⟩

theorem Chg.setCell {S : Nat → Prop} (w : World) (p : Addr) (u : Value) (hp : p.block < w.heap.size → S p.block) : Chg S w (w.setCell p u) :=
  ⟨rfl, rfl, rfl, by simp [World.setCell], fun k hk hs => Below.heap_setCell _ _ _ _ (fun e => hs (by subst e; exact hp hk))⟩

theorem Chg.putObj {S : Nat → Prop} (w : World) (l : Nat) (o : Obj) (hp : l < w.heap.size → S l) : Chg S w (w.putObj l o) :=
  ⟨rfl, rfl, rfl, by simp, fun _ hk hs => World.putObj_heap_other (fun e => hs (by subst e; exact hp hk))⟩

theorem Chg.drew (S : Nat → Prop) (w : World) : Chg S w w.drew := ⟨rfl, rfl, rfl, Nat.le_refl _, fun _ _ _ => rfl⟩

theorem Chg.below {S : Nat → Prop} {B : Nat} {w w' : World} (h : Chg S w w') (hB : B ≤ w.heap.size) (hs : ∀ k, k < w.heap.size → S k → B ≤ k) : Below B w w' :=
  ⟨h.os, h.tape, h.output, h.size, fun k hk => h.block k (Nat.lt_of_lt_of_le hk hB) (fun e => Nat.not_le_of_lt hk (hs k (Nat.lt_of_lt_of_le hk hB) e))⟩

theorem Chg.heap {S : Nat → Prop} {w w' : World} (h : Chg S w w') {k : Nat} {o : Obj} (ho : w.heap[k]? = some o) (hs : ¬ S k) : w'.heap[k]? = some o :=
  (h.block k (Array.getElem?_eq_some_iff.1 ho).1 hs).trans ho

theorem lt_of_heap {w : World} {k : Nat} {o : Obj} (h : w.heap[k]? = some o) : k < w.heap.size := (Array.getElem?_eq_some_iff.1 h).1

theorem Chg.cell {S : Nat → Prop} {w w' : World} (h : Chg S w w') {p : Addr} {v : Value} (hc : w.cell? p = some v) (hs : ¬ S p.block) : w'.cell? p = some v :=
  (World.cell?_of_block (w := w) (h.block p.block (World.block_lt_of_cell? w p hc) hs)).trans hc

theorem Chg.owns {S : Nat → Prop} {w w' : World} (h : Chg S w w') {base : Nat} {e : TypeId} {size : Nat} {v : Value} {n : Nat} {xs : List Value} (ho : w.ownsRow base e size v n xs)
    (hs : ∀ g, v.ownBlock = some g → ¬ S g) : w'.ownsRow base e size v n xs := by
  refine ⟨ho.1, ?_⟩
  rcases ho.2 with h0 | ⟨g, cap, cur, rfl, hb, hg, rest⟩
  · exact .inl h0
  · exact .inr ⟨g, cap, cur, rfl, hb, h.heap hg (hs g rfl), rest⟩

theorem enters {P : Program} {f : FuncId} {fn : Func} {c : Code} (hf : P.funcs[f]? = some fn) (hname : (fn.name == "runtime.NumGoroutine") = false) (hb : fn.body = some c) : ∀ args w, (callFunc f args).run P w = .ok (.enter f args) w := by
  intro args w
  have h1 : fn.name ≠ "runtime.NumGoroutine" := by simpa using hname
  simp [callFunc, hf, h1, hb, mark]

/-! ### Ranges over functions -/

abbrev FW (ro : Option Nat) : Fence := { fn := fun _ => True, depth := none, alive := false, round := ro }

theorem callsIn_fw {ro : Option Nat} {n : Nat} {P : Program} {f : FuncId} {args : Array Value} {w : World} {R : Ending → World → Prop} (h : Calls P f args w R) : CallsIn (FW ro) n P f args w R := by
  have h1 : CallsIn Fence.wide n P f args w R := callsIn_wide.2 h
  exact h1

theorem calls_of_fw {ro : Option Nat} {n : Nat} {P : Program} {f : FuncId} {args : Array Value} {w : World} {R : Ending → World → Prop} (h : CallsIn (FW ro) n P f args w R) : Calls P f args w R := by
  have h1 : CallsIn Fence.wide n P f args w R := h
  exact callsIn_wide.1 h1

theorem yieldAt_any {ro ro' : Option Nat} {n n' : Nat} {P : Program} {l : Nat} {args : Array Value} {w : World} {R : Ending → World → Prop} (h : YieldAt (FW ro) n P l args w R) : YieldAt (FW ro') n' P l args w R := by
  obtain ⟨fn, tmps, assign, body, hy, hF, hr⟩ := h
  exact ⟨fn, tmps, assign, body, hy, hF, fun c cs _ => hr c cs (fun d hd => by cases hd)⟩

/-- The blocks T' are among T and those that were laid from W to W'. -/
def Adds (T T' : Nat → Prop) (W W' : World) : Prop := ∀ k, T' k → T k ∨ (W.heap.size ≤ k ∧ k < W'.heap.size)

theorem Adds.refl (T : Nat → Prop) (W W' : World) : Adds T T W W' := fun _ h => .inl h

/-- What an iterator promises: called at the yield of any loop l, it hands over the elements xs, one by one. J i T is the caller's invariant when i elements have come, T the blocks that the rounds may write (those named at first, and those that the rounds laid); Jx: what holds where a round has said no more; own: the blocks that the iterator leans on. -/
def Iter (P : Program) (gf : Nat) (lb : Array Value) (own : Nat → Prop) (xs : List (Array Value)) (w0 : World) : Prop :=
  ∀ (l : Nat) (T0 : Nat → Prop) (J Jx : Nat → (Nat → Prop) → World → Prop) (W : World),
    Chg (fun k => ¬ own k) w0 W →
    (∀ k, own k → k < W.heap.size) →
    (∀ k, T0 k → k < W.heap.size ∧ ¬ own k) →
    (∀ i T A B, J i T A → Chg (fun k => W.heap.size ≤ k ∧ ¬ T k) A B → J i T B) →
    (∀ i T A B, Jx i T A → Chg (fun k => W.heap.size ≤ k ∧ ¬ T k) A B → Jx i T B) →
    (∀ i x T W1, xs[i]? = some x → J i T W1 → W.heap.size ≤ W1.heap.size → (∀ k, T k → k < W1.heap.size) → YieldAt (FW none) 0 P l x W1 fun e W' =>
      (e = .returned (.bool true) ∧ ∃ T', J (i + 1) T' W' ∧ Chg T W1 W' ∧ Adds T T' W1 W') ∨ (e = .returned (.bool false) ∧ ∃ T', Jx i T' W' ∧ Chg T W1 W' ∧ Adds T T' W1 W')) →
    J 0 T0 W →
    CallsIn (FW none) 0 P gf (#[.func (.yield l) #[] #[]] ++ lb) W fun e W' => (∃ v, e = .returned v) ∧ ((∃ T, J xs.length T W') ∨ ∃ i T, i < xs.length ∧ Jx i T W')

/-- What an iterator carries from round to round. -/
structure ItOk (own T : Nat → Prop) (W wr : World) : Prop where
  size : W.heap.size ≤ wr.heap.size
  t : ∀ k, T k → k < wr.heap.size ∧ ¬ own k
  c : Chg (fun k => ¬ own k) W wr

theorem ItOk.lt {own T : Nat → Prop} {W wr : World} (h : ItOk own T W wr) : ∀ k, T k → k < wr.heap.size := fun k hk => (h.t k hk).1

theorem ItOk.step {own T T' : Nat → Prop} {W W1 W' : World} (h : ItOk own T W W1) (ho : ∀ k, own k → k < W.heap.size) (hc : Chg T W1 W') (ha : Adds T T' W1 W') : ItOk own T' W W' :=
  ⟨Nat.le_trans h.size hc.size, fun k hk => by
    rcases ha k hk with h1 | h1
    · exact ⟨Nat.lt_of_lt_of_le (h.t k h1).1 hc.size, (h.t k h1).2⟩
    · exact ⟨h1.2, fun ho' => by have := ho k ho'; have := h.size; omega⟩,
   h.c.trans (hc.mono (fun k _ hk => (h.t k hk).2))⟩

/-- How the body of a round may be left: W the world as the round began, W2 as the body began. -/
def rndPost (T : Nat → Prop) (W : World) (J : (Nat → Prop) → World → Prop) (Jx : Code → (Nat → Prop) → World → Prop) (W2 : World) : Exit → Act → World → Prop
  | .normal, _, W' => ∃ T', J T' W' ∧ Chg (fun k => T k ∨ W.heap.size ≤ k) W2 W' ∧ Adds T T' W W'
  | .ret, _, W' => ∃ T', Jx .ret T' W' ∧ Chg (fun k => T k ∨ W.heap.size ≤ k) W2 W' ∧ Adds T T' W W'
  | .exit id, _, W' => ∃ T', Jx (.exit id) T' W' ∧ Chg (fun k => T k ∨ W.heap.size ≤ k) W2 W' ∧ Adds T T' W W'
  | .goto t, _, W' => ∃ T', Jx (.goto t) T' W' ∧ Chg (fun k => T k ∨ W.heap.size ≤ k) W2 W' ∧ Adds T T' W W'
  | .panic _, _, _ => False
  | .outgrown, _, _ => False

section
variable {P : Program}

/-- One round, on the loop's record. -/
theorem round_core {ro : Option Nat} {fn : Nat} {l : Nat} {rec : LoopState → Option Code → Loop} {tmps : Array Value} {ps : Array Tmp} {assign body : Code} {D : Nat}
    (hrec : rec = fun st pe => { state := st, pending := pe, fn, tmps, params := ps, assign, body, defers := D })
    {T : Nat → Prop} (hTl : ¬ T l) {x : Array Value} (hps : x.size = ps.size) {W : World} {J : (Nat → Prop) → World → Prop} {Jx : Code → (Nat → Prop) → World → Prop}
    (hl : W.heap[l]? = some (.loop (rec .ready none)))
    (hJp : ∀ T A o, J T A → ¬ T l → J T (A.putObj l o)) (hJxp : ∀ c T A o, Jx c T A → ¬ T l → Jx c T (A.putObj l o))
    (hbody : (∃ r, W.heap[l]? = some (.loop r)) → assign.wpIn (FW (some l)) 0 P (Exit.then (fun a1 W1 => Chg T W W1 ∧ ∀ W2, Chg (oneB l) W1 W2 → W2.heap.size = W1.heap.size → (∃ r, W2.heap[l]? = some (.loop r)) → body.wpIn (FW (some l)) 0 P (rndPost T W J Jx W2) a1 W2) (fun _ _ _ => False))
      { tmps := (ps.zip x).foldl (fun t (p, v) => t.setIfInBounds p v) tmps, defers := [] } W) :
    YieldAt (FW ro) 0 P l x W fun e W' =>
      (e = .returned (.bool true) ∧ ∃ T', J T' W' ∧ ¬ T' l ∧ W'.heap[l]? = some (.loop (rec .ready none)) ∧ Chg (fun k => T k ∨ k = l) W W' ∧ Adds T T' W W') ∨
      (e = .returned (.bool false) ∧ ∃ c T', Jx c T' W' ∧ ¬ T' l ∧ W'.heap[l]? = some (.loop (rec .done (some c))) ∧ Chg (fun k => T k ∨ k = l) W W' ∧ Adds T T' W W') := by
  have hy := run_yield (P := P) (args := x) hl (by rw [hrec]; exact hps)
  rw [hrec] at hy
  have hlW := lt_of_heap hl
  refine yieldAt_any (ro := none) (n := 0) ⟨fn, _, assign, body, hy, roundIn_of_wpIn trivial (Go.wpIn_mono (hbody ⟨_, hl⟩) ?_)⟩
  clear hy
  rintro e a1 W1 h1
  cases e with
  | normal =>
    obtain ⟨hc1, hb⟩ := h1
    have hl1 : W1.heap[l]? = some (.loop (rec .ready none)) := hc1.heap hl hTl
    refine ⟨_, run_beginRound hl1 (by rw [hrec]), ?_⟩
    have hl2 : (W1.putObj l (.loop { rec .ready none with state := .busy })).heap[l]? = some (.loop { rec .ready none with state := .busy }) := World.putObj_heap_same (lt_of_heap hl1)
    refine Go.wpIn_mono (hb _ (Chg.putObj _ _ _ (fun _ => rfl)) (by simp) ⟨_, hl2⟩) ?_
    have fin : ∀ (jump : Option Code) (W3 : World) (T' : Nat → Prop), Chg (fun k => T k ∨ W.heap.size ≤ k) (W1.putObj l (.loop { rec .ready none with state := .busy })) W3 → Adds T T' W W3 →
        (Instr.endRound l jump).run P W3 = .ok (.bool jump.isNone) (W3.putObj l (.loop (rec (if jump.isNone then .ready else .done) jump))) ∧
        (W3.putObj l (.loop (rec (if jump.isNone then .ready else .done) jump))).heap[l]? = some (.loop (rec (if jump.isNone then .ready else .done) jump)) ∧
        Chg (fun k => T k ∨ k = l) W (W3.putObj l (.loop (rec (if jump.isNone then .ready else .done) jump))) ∧ ¬ T' l ∧ Adds T T' W (W3.putObj l (.loop (rec (if jump.isNone then .ready else .done) jump))) := fun jump W3 T' hk3 had => by
      have hl3 := hk3.heap hl2 (fun h => by rcases h with h | h; exact hTl h; omega)
      have := run_endRound (P := P) jump hl3
      rw [hrec] at this ⊢
      refine ⟨this, World.putObj_heap_same (lt_of_heap hl3), ?_, ?_, ?_⟩
      · refine (Chg.trans' (((hc1.mono (fun _ _ h => .inl h)).trans (Chg.putObj _ _ _ (fun _ => .inr rfl)))) hk3 (U := fun k => T k ∨ k = l) (fun _ _ h => h) (fun i hi h => ?_)).trans (Chg.putObj _ _ _ (fun _ => .inr rfl))
        rcases h with h | h
        · exact .inl h
        · omega
      · intro h
        rcases had _ h with h | h
        · exact hTl h
        · omega
      · intro k hk; have := had k hk; simpa using this
    rintro e a3 W3 hp
    cases e with
    | normal =>
      obtain ⟨T', hi3, hk3, had⟩ := hp
      obtain ⟨hr, hl4, hc4, hn4, ha4⟩ := fin none W3 T' hk3 had
      exact ⟨_, _, hr, .inl ⟨rfl, T', hJp _ _ _ hi3 hn4, hn4, hl4, hc4, ha4⟩⟩
    | ret =>
      obtain ⟨T', hi3, hk3, had⟩ := hp
      obtain ⟨hr, hl4, hc4, hn4, ha4⟩ := fin (some .ret) W3 T' hk3 had
      exact ⟨_, _, hr, .inr ⟨rfl, .ret, T', hJxp _ _ _ _ hi3 hn4, hn4, hl4, hc4, ha4⟩⟩
    | exit id =>
      obtain ⟨T', hi3, hk3, had⟩ := hp
      obtain ⟨hr, hl4, hc4, hn4, ha4⟩ := fin (some (.exit id)) W3 T' hk3 had
      exact ⟨_, _, hr, .inr ⟨rfl, .exit id, T', hJxp _ _ _ _ hi3 hn4, hn4, hl4, hc4, ha4⟩⟩
    | goto t =>
      obtain ⟨T', hi3, hk3, had⟩ := hp
      obtain ⟨hr, hl4, hc4, hn4, ha4⟩ := fin (some (.goto t)) W3 T' hk3 had
      exact ⟨_, _, hr, .inr ⟨rfl, .goto t, T', hJxp _ _ _ _ hi3 hn4, hn4, hl4, hc4, ha4⟩⟩
    | panic ch => exact hp.elim
    | outgrown => exact hp.elim
  | exit id => exact h1.elim
  | goto t => exact h1.elim
  | ret => exact h1.elim
  | panic ch => exact h1.elim
  | outgrown => exact h1.elim

/-- The body's part of a range: what is owed at each round. -/
def RndOk (P : Program) (ps : Array Tmp) (assign body : Code) (a : Act) (B : Nat) (xs : List (Array Value)) (J : Nat → (Nat → Prop) → World → Prop) (Jx : Code → Nat → (Nat → Prop) → World → Prop) : Prop :=
  ∀ l i x T W, xs[i]? = some x → J i T W → B ≤ l → ¬ T l → (∃ r, W.heap[l]? = some (.loop r)) → (∀ k, T k → k < W.heap.size) →
      assign.wpIn (FW (some l)) 0 P (Exit.then (fun a1 W1 => Chg T W W1 ∧ ∀ W2, Chg (oneB l) W1 W2 → W2.heap.size = W1.heap.size → (∃ r, W2.heap[l]? = some (.loop r)) → body.wpIn (FW (some l)) 0 P (rndPost T W (J (i + 1)) (fun c => Jx c i) W2) a1 W2) (fun _ _ _ => False))
      { tmps := (ps.zip x).foldl (fun t (p, v) => t.setIfInBounds p v) a.tmps, defers := [] } W

/-- The loop variables are plain slots: the body is walked from the world W2 in which it begins, J holding there. -/
theorem RndOk.plain {ps : Array Tmp} {assign body : Code} {a : Act} {B : Nat} {xs : List (Array Value)} {J : Nat → (Nat → Prop) → World → Prop} {Jx : Code → Nat → (Nat → Prop) → World → Prop}
    (a1 : Array Value → Act) (hJ : ∀ i T A B', J i T A → Chg (fun k => B ≤ k ∧ ¬ T k) A B' → J i T B')
    (hassign : ∀ l x W (K : Act → World → Prop), x ∈ xs → K (a1 x) W → assign.wpIn (FW (some l)) 0 P (Exit.then K (fun _ _ _ => False)) { tmps := (ps.zip x).foldl (fun t (p, v) => t.setIfInBounds p v) a.tmps, defers := [] } W)
    (hbody : ∀ l i x T W, xs[i]? = some x → J i T W → B ≤ l → ¬ T l → (∃ r, W.heap[l]? = some (.loop r)) → (∀ k, T k → k < W.heap.size) →
      body.wpIn (FW (some l)) 0 P (rndPost T W (J (i + 1)) (fun c => Jx c i) W) (a1 x) W) : RndOk P ps assign body a B xs J Jx := by
  intro l i x T W hx hj hB hTl hr hT
  refine hassign l x W _ (List.mem_of_getElem? hx) ⟨Chg.refl _ _, fun W2 hc hs hr2 => ?_⟩
  refine Go.wpIn_mono (hbody l i x T W2 hx (hJ _ _ _ _ hj (hc.mono (fun k _ hk => by cases hk; exact ⟨hB, hTl⟩))) hB hTl hr2 (fun k hk => by rw [hs]; exact hT k hk)) ?_
  rintro e a3 W3 hp
  unfold rndPost at hp ⊢
  unfold Adds at hp ⊢
  rw [hs] at hp
  exact hp

theorem RndOk.enc {α : Type} {ps : Array Tmp} {assign body : Code} {a : Act} {B : Nat} {enc : α → Array Value} {ys : List α} {J : Nat → (Nat → Prop) → World → Prop} {Jx : Code → Nat → (Nat → Prop) → World → Prop}
    (hJ : ∀ i T A B', J i T A → Chg (fun k => B ≤ k ∧ ¬ T k) A B' → J i T B') (a1 : α → Act)
    (hassign : ∀ l y W (K : Act → World → Prop), K (a1 y) W → assign.wpIn (FW (some l)) 0 P (Exit.then K (fun _ _ _ => False)) { tmps := (ps.zip (enc y)).foldl (fun t (p, v) => t.setIfInBounds p v) a.tmps, defers := [] } W)
    (hbody : ∀ l i y T W, ys[i]? = some y → J i T W → B ≤ l → ¬ T l → (∃ r, W.heap[l]? = some (.loop r)) → (∀ k, T k → k < W.heap.size) →
      body.wpIn (FW (some l)) 0 P (rndPost T W (J (i + 1)) (fun c => Jx c i) W) (a1 y) W) : RndOk P ps assign body a B (ys.map enc) J Jx := by
  intro l i x T W hx hj hB hTl hr hT
  rw [List.getElem?_map] at hx
  obtain ⟨y, hy, rfl⟩ := Option.map_eq_some_iff.1 hx
  refine hassign l y W _ ⟨Chg.refl _ _, fun W2 hc hs hr2 => ?_⟩
  refine Go.wpIn_mono (hbody l i y T W2 hy (hJ _ _ _ _ hj (hc.mono (fun k _ hk => by cases hk; exact ⟨hB, hTl⟩))) hB hTl hr2 (fun k hk => by rw [hs]; exact hT k hk)) ?_
  rintro e a3 W3 hp
  unfold rndPost at hp ⊢
  unfold Adds at hp ⊢
  rw [hs] at hp
  exact hp

/-- The statement 'for .. := range g { .. }' outside of every round, over an iterator that has its promise. -/
theorem wpIn_range {g : Operand} {ps : Array Tmp} {assign body : Code} {Q : Exit → Act → World → Prop} {a : Act} {w : World}
    {gf : Nat} {lb : Array Value} {own : Nat → Prop} {xs : List (Array Value)} {w0 : World} (hseq : Iter P gf lb own xs w0)
    (T0 : Nat → Prop) (J : Nat → (Nat → Prop) → World → Prop) (Jx : Code → Nat → (Nat → Prop) → World → Prop)
    (hg : a.eval g = .func (.func gf) #[] lb) (eg : ∀ args w, (callFunc gf args).run P w = .ok (.enter gf args) w)
    (hps : ∀ x ∈ xs, x.size = ps.size) (hb0 : Chg (fun k => ¬ own k) w0 w) (ho0 : ∀ k, own k → k < w.heap.size)
    (hT0 : ∀ k, T0 k → k < w.heap.size ∧ ¬ own k)
    (hJ : ∀ i T A B, J i T A → Chg (fun k => w.heap.size ≤ k ∧ ¬ T k) A B → J i T B) (hJx : ∀ c i T A B, Jx c i T A → Chg (fun k => w.heap.size ≤ k ∧ ¬ T k) A B → Jx c i T B)
    (h0 : J 0 T0 w)
    (hbody : RndOk P ps assign body a w.heap.size xs J Jx)
    (hdone : ∀ D T W, w.heap.size ≤ D → W.heap[D]? = some (.deferred (some [])) → ¬ T D → J xs.length T W → Q .normal { a with defers := { target := .collected D, args := #[] } :: a.defers } W)
    (hstop : ∀ D c i T W, w.heap.size ≤ D → W.heap[D]? = some (.deferred (some [])) → ¬ T D → i < xs.length → Jx c i T W → c.wpIn (FW none) 0 P Q { a with defers := { target := .collected D, args := #[] } :: a.defers } W) :
    (Code.rangeFunc g ps assign body).wpIn (FW none) 0 P Q a w := by
  refine wpIn_rangeFunc ?_
  intro fn _
  obtain ⟨rec, hrec⟩ : ∃ rec : LoopState → Option Code → Loop, rec = fun st pe => { state := st, pending := pe, fn, tmps := a.tmps, params := ps, assign, body, defers := w.heap.size } := ⟨_, rfl⟩
  obtain ⟨W1, hW1⟩ : ∃ W1, (w.alloc (.deferred (some []))).alloc (.loop (rec .ready none)) = W1 := ⟨_, rfl⟩
  have hL1 : W1.heap[w.heap.size + 1]? = some (.loop (rec .ready none)) := by
    rw [← hW1]; have := World.alloc_heap_new (w.alloc (.deferred (some []))) (.loop (rec .ready none)); rwa [World.size_alloc] at this
  have hK1 : W1.heap[w.heap.size]? = some (.deferred (some [])) := by
    rw [← hW1]; exact (Below.heap_alloc _ _ _ (by simp)).trans (World.alloc_heap_new w _)
  have hsz : W1.heap.size = w.heap.size + 2 := by rw [← hW1]; simp
  have hc1 : ∀ T, Chg T w W1 := fun T => by rw [← hW1]; exact (Chg.alloc _ _ _).trans (Chg.alloc _ _ _)
  obtain ⟨L, hL⟩ : ∃ L, L = w.heap.size + 1 := ⟨_, rfl⟩
  refine ⟨L, [{ target := .collected w.heap.size, args := #[] }], W1, { target := .fn (.func gf) lb, args := #[.func (.yield L) #[] #[]] }, W1, gf,
    #[.func (.yield L) #[] #[]] ++ lb, W1, ?_, ?_, ?_, ?_, fun h => by simp at h, ?_⟩
  · rw [← hW1, hrec, hL]; exact run_enterLoop_outer _ _ _ _ _
  · simp only [resolve, hg]
    simp [go_sem]
  · intro f' hf'; trivial
  · simp [invoke, go_sem, eg]
  · rw [← hL] at hL1
    refine (hseq L (fun k => T0 k ∨ k = L)
      (fun i T W => ∃ T', (∀ k, T k ↔ T' k ∨ k = L) ∧ ¬ T' L ∧ ¬ T' w.heap.size ∧ (∀ k, T' k → k < W.heap.size) ∧ J i T' W ∧ W.heap[L]? = some (.loop (rec .ready none)) ∧ W.heap[w.heap.size]? = some (.deferred (some [])))
      (fun i T W => ∃ T' c, (∀ k, T k ↔ T' k ∨ k = L) ∧ ¬ T' L ∧ ¬ T' w.heap.size ∧ Jx c i T' W ∧ W.heap[L]? = some (.loop (rec .done (some c))) ∧ W.heap[w.heap.size]? = some (.deferred (some [])))
      W1 (hb0.trans (hc1 _)) (fun k hk => by have := ho0 k hk; omega) ?_ ?_ ?_ ?_
      ⟨T0, fun _ => Iff.rfl, fun h => by have := (hT0 _ h).1; omega, fun h => by have := (hT0 _ h).1; omega, fun k hk => by have := (hT0 k hk).1; omega, hJ _ _ _ _ h0 (hc1 _), hL1, hK1⟩).mono ?_
    · rintro k (hk | rfl)
      · exact ⟨by have := (hT0 k hk).1; omega, (hT0 k hk).2⟩
      · exact ⟨by omega, fun h => by have := ho0 _ h; omega⟩
    · rintro i T A B ⟨T', ht, hn1, hn2, hTs, h1, h2, h3⟩ hc
      have hn : ∀ k, k < w.heap.size + 2 → ¬ (W1.heap.size ≤ k ∧ ¬ T k) := fun k hk h => by omega
      exact ⟨T', ht, hn1, hn2, fun k hk => Nat.lt_of_lt_of_le (hTs k hk) hc.size, hJ _ _ _ _ h1 (hc.mono (fun k _ hk => ⟨by omega, fun h => hk.2 ((ht k).2 (.inl h))⟩)), hc.heap h2 (hn _ (by omega)), hc.heap h3 (hn _ (by omega))⟩
    · rintro i T A B ⟨T', c, ht, hn1, hn2, h1, h2, h3⟩ hc
      have hn : ∀ k, k < w.heap.size + 2 → ¬ (W1.heap.size ≤ k ∧ ¬ T k) := fun k hk h => by omega
      exact ⟨T', c, ht, hn1, hn2, hJx _ _ _ _ _ h1 (hc.mono (fun k _ hk => ⟨by omega, fun h => hk.2 ((ht k).2 (.inl h))⟩)), hc.heap h2 (hn _ (by omega)), hc.heap h3 (hn _ (by omega))⟩
    · rintro i x T W hx ⟨T', ht, hn1, hn2, hTs, h1, h2, h3⟩ hle hTW
      have hlt := lt_of_heap h2
      have hput : ∀ (U : Nat → Prop) (A : World) (o : Obj), ¬ U L → Chg (fun k => w.heap.size ≤ k ∧ ¬ U k) A (A.putObj L o) := fun U A o hU => Chg.putObj _ _ _ (fun _ => ⟨by omega, hU⟩)
      refine (round_core (ro := none) hrec hn1 (hps x (List.mem_of_getElem? hx)) (J := J (i + 1)) (Jx := fun c => Jx c i) h2 ?_ ?_ ?_).mono ?_
      · intro U A o h hU; exact hJ _ _ _ _ h (hput U A o hU)
      · intro c U A o h hU; exact hJx _ _ _ _ _ h (hput U A o hU)
      · intro hr; exact hbody L i x T' W hx h1 (by omega) hn1 hr hTs
      · have keyD : ∀ (U : Nat → Prop) (W' : World), Adds T' U W W' → ¬ U w.heap.size := fun U W' hA h => by
          rcases hA _ h with h | h
          · exact hn2 h
          · omega
        have keyA : ∀ (U : Nat → Prop) (W' : World), Adds T' U W W' → Adds T (fun k => U k ∨ k = L) W W' := fun U W' hA k hk => by
          rcases hk with hk | rfl
          · rcases hA k hk with h | h
            · exact .inl ((ht k).2 (.inl h))
            · exact .inr h
          · exact .inl ((ht k).2 (.inr rfl))
        have keyC : ∀ (W' : World), Chg (fun k => T' k ∨ k = L) W W' → Chg T W W' := fun W' h => h.mono (fun k _ hk => (ht k).2 hk)
        have keyS : ∀ (U : Nat → Prop) (W' : World), Adds T' U W W' → W.heap.size ≤ W'.heap.size → ∀ k, U k → k < W'.heap.size := fun U W' hA hs k hk => by
          rcases hA k hk with h | h
          · exact Nat.lt_of_lt_of_le (hTs k h) hs
          · exact h.2
        have hD : ¬ (T' w.heap.size ∨ w.heap.size = L) := fun h => by
          rcases h with h | h
          · exact hn2 h
          · omega
        rintro e W' (⟨rfl, U, h4, hU, h5, h6, hA⟩ | ⟨rfl, c, U, h4, hU, h5, h6, hA⟩)
        · exact .inl ⟨rfl, fun k => U k ∨ k = L, ⟨U, fun _ => Iff.rfl, hU, keyD U W' hA, keyS U W' hA h6.size, h4, h5, h6.heap h3 hD⟩, keyC _ h6, keyA _ _ hA⟩
        · exact .inr ⟨rfl, fun k => U k ∨ k = L, ⟨U, c, fun _ => Iff.rfl, hU, keyD U W' hA, h4, h5, h6.heap h3 hD⟩, keyC _ h6, keyA _ _ hA⟩
    · have hput : ∀ (U : Nat → Prop) (A : World) (o : Obj), ¬ U L → Chg (fun k => w.heap.size ≤ k ∧ ¬ U k) A (A.putObj L o) := fun U A o hU => Chg.putObj _ _ _ (fun _ => ⟨by omega, hU⟩)
      rintro e W2 ⟨⟨v, rfl⟩, (⟨T, T', ht, hn1, hn2, hTs, h1, h2, h3⟩ | ⟨i, T, hi, T', c, ht, hn1, hn2, h1, h2, h3⟩)⟩
      · refine ⟨none, _, by have := run_endLoop (P := P) h2 (by rw [hrec]; simp); rw [hrec] at this; exact this, ?_⟩
        exact hdone _ T' _ (Nat.le_refl _) ((World.putObj_heap_other (by omega)).trans h3) hn2 (hJ _ _ _ _ h1 (hput _ _ _ hn1))
      · refine ⟨some c, _, by have := run_endLoop (P := P) h2 (by rw [hrec]; simp); rw [hrec] at this; exact this, ?_⟩
        exact hstop _ c i T' _ (Nat.le_refl _) ((World.putObj_heap_other (by omega)).trans h3) hn2 hi (hJx _ _ _ _ _ h1 (hput _ _ _ hn1))

/-- The way out, one mark left behind. -/
theorem leave_mark {fn : Func} {tmps : Array Value} {R : Ending → World → Prop} {D : Nat} {ds : List Deferred} {w : World}
    (hD : w.heap[D]? = some (.deferred (some []))) (h : LeavesInM (FW none) 0 P fn tmps R ds .returning (w.putObj D (.deferred none))) :
    LeavesInM (FW none) 0 P fn tmps R ({ target := .collected D, args := #[] } :: ds) .returning w :=
  ⟨by simp, .inl ⟨_, _, rfl, run_takeDeferred hD, h⟩⟩

theorem leave_none {fn : Func} {tmps : Array Value} {R : Ending → World → Prop} {w : World} {v : Value} (hr : (results fn tmps).run P w = .ok v w) (hR : R (.returned v) w) :
    LeavesInM (FW none) 0 P fn tmps R [] .returning w := ⟨v, hr, hR⟩
end

end Go.Proofs.YtcplbkbimpiioaaGreatDoor
