/- A sender's buffer: what the calls come to, in plain Lean. -/
import Derived.Test.YtklbmgfpnafdlaaLibK
namespace Go.Proofs.Ytklbmgfpnafdlaa
open Go Go.RowKit
def wr (x : Int) : Int := IntKind.u64.wrap x
theorem wr_in {x : Int} (h : 0 ≤ x ∧ x < 18446744073709551616) : wr x = x := by unfold wr; rw [IntKind.wrap_u64]; omega
theorem wr_u (x : Int) : 0 ≤ wr x ∧ wr x < 18446744073709551616 := by unfold wr; rw [IntKind.wrap_u64]; omega
theorem wr_top : wr 18446744073709551616 = 0 := by unfold wr; rw [IntKind.wrap_u64]; rfl
/-- A buffer. -/
structure Jb where
  d : Int
  s : Int
  so : Bool
  ov : Bool
  fi : Int
  tm : Int
  nx : Int
  m : List (Int × Value)
  k : Int
  p : Int
  l : Int
  t : Int
  e : Int
  f : Int
def Jb.init (d s : Int) : Jb := ⟨d, s, false, false, 0, 0, 0, [], 0, 0, 0, 0, 0, 0⟩
def Jb.cells (B : Jb) (b : Nat) : List Value := [.int .u64 B.d, .int .u64 B.s, .bool B.so, .bool B.ov, .int .u64 B.fi, .int .u64 B.tm, .int .u64 B.nx, .map (some b), .int .u64 B.k, .int .u64 B.p, .int .u64 B.l, .int .u64 B.t, .int .u64 B.e, .int .u64 B.f]
def Jb.some1 (B : Jb) (ctr now : Int) : Jb := if B.so then B else { B with so := true, fi := ctr, nx := ctr, tm := now }
def Jb.late (B : Jb) (ctr : Int) : Bool := B.ov || decide (ctr < B.nx)
def Jb.put0 (B : Jb) (ctr : Int) (x : Value) : Jb × Int :=
  if B.late ctr then ({ B with t := wr (B.t + 1) }, 161)
  else if (mget B.m ctr).isSome then ({ B with e := wr (B.e + 1) }, 160)
  else if 512 < wr (ctr - B.nx) then ({ B with f := wr (B.f + 1) }, 7)
  else ({ B with m := mput B.m ctr x, k := wr (B.k + 1) }, 0)
def Jb.put (B : Jb) (ctr now : Int) (x : Value) : Jb × Int := (B.some1 ctr now).put0 ctr x
def plF (a b : Int) : Int := if a + b < 18446744073709551616 then a + b else 18446744073709551615
def Jb.due (B : Jb) (ctr : Int) : Int :=
  if 18446744073709551616 ≤ wr (ctr - B.fi) * B.s then 18446744073709551615 else plF (plF B.tm B.d) (wr (ctr - B.fi) * B.s)
def Jb.isDue (B : Jb) (now : Int) : Bool := !B.m.isEmpty && decide (B.due B.nx ≤ now)
def Jb.step (B : Jb) : Jb :=
  { B with m := mdel B.m B.nx, p := if (mget B.m B.nx).isSome then wr (B.p + 1) else B.p, l := if (mget B.m B.nx).isSome then B.l else wr (B.l + 1), nx := wr (B.nx + 1), ov := decide (wr (B.nx + 1) = 0) }
def Jb.next (B : Jb) (now : Int) (z : Value) : Jb × Value × Int × Bool × Bool :=
  if B.isDue now then (B.step, (mget B.m B.nx).getD z, B.nx, !(mget B.m B.nx).isSome, true) else (B, z, 0, false, false)
def U6 (x : Int) : Prop := 0 ≤ x ∧ x < 18446744073709551616
structure Jb.ok (B : Jb) : Prop where
  d : U6 B.d
  s : U6 B.s
  fi : U6 B.fi
  tm : U6 B.tm
  nx : U6 B.nx
  m : ∀ p ∈ B.m, U6 p.1
theorem U6_0 : U6 0 := ⟨by omega, by omega⟩
theorem Jb.init_ok {d s : Int} (hd : U6 d) (hs : U6 s) : (Jb.init d s).ok := ⟨hd, hs, U6_0, U6_0, U6_0, fun _ h => nomatch h⟩
theorem Jb.some1_ok {B : Jb} {ctr now : Int} (h : B.ok) (hc : U6 ctr) (hn : U6 now) : (B.some1 ctr now).ok := by
  unfold Jb.some1
  split
  · exact h
  · exact ⟨h.d, h.s, hc, hn, hc, h.m⟩
theorem Jb.put0_ok {B : Jb} {ctr : Int} {x : Value} (h : B.ok) (hc : U6 ctr) : (B.put0 ctr x).1.ok := by
  unfold Jb.put0
  split
  · exact ⟨h.d, h.s, h.fi, h.tm, h.nx, h.m⟩
  · split
    · exact ⟨h.d, h.s, h.fi, h.tm, h.nx, h.m⟩
    · split
      · exact ⟨h.d, h.s, h.fi, h.tm, h.nx, h.m⟩
      · refine ⟨h.d, h.s, h.fi, h.tm, h.nx, fun p hp => ?_⟩
        rcases mput_mem.1 hp with rfl | ⟨h1, _⟩
        · exact hc
        · exact h.m p h1
theorem Jb.put_ok {B : Jb} {ctr now : Int} {x : Value} (h : B.ok) (hc : U6 ctr) (hn : U6 now) : (B.put ctr now x).1.ok := Jb.put0_ok (Jb.some1_ok h hc hn) hc
theorem Jb.step_ok {B : Jb} (h : B.ok) : B.step.ok := ⟨h.d, h.s, h.fi, h.tm, wr_u _, fun p hp => h.m p (mdel_mem.1 hp).1⟩
theorem Jb.next_ok {B : Jb} {now : Int} {z : Value} (h : B.ok) : (B.next now z).1.ok := by
  unfold Jb.next
  split
  · exact Jb.step_ok h
  · exact h
theorem plF_u {a b : Int} (ha : U6 a) (hb : U6 b) : U6 (plF a b) := by
  unfold plF U6 at *
  split <;> omega
theorem Jb.due_u {B : Jb} (h : B.ok) (ctr : Int) : U6 (B.due ctr) := by
  unfold Jb.due
  split
  · constructor <;> decide
  · refine plF_u (plF_u h.tm h.d) ⟨?_, by omega⟩
    exact Int.mul_nonneg (wr_u _).1 h.s.1

/-! ### JitterEnds -/
/-- What is kept tells its counter. -/
def KeptE (m : List (Int × Value)) (c : Int) : Prop := ∀ p ∈ m, ∃ v : Int, p.2 = .int .u8 v ∧ (0 ≤ v ∧ v < 256) ∧ p.1 = 18446744073709551615 - v ∧ c ≤ p.1
def seenM (m : List (Int × Value)) : List (Int × Unit) := m.map fun p => (p.1, ())
theorem seenM_get (m : List (Int × Value)) (c : Int) : (mget (seenM m) c).isSome = (mget m c).isSome := by
  rw [Bool.eq_iff_iff]
  simp [seenM, mget]
theorem seenM_put {m : List (Int × Value)} {c : Int} (h : (mget m c).isSome = false) (x : Value) : mput (seenM m) c () = seenM (mput m c x) := by
  unfold mput
  rw [seenM_get, h]
  simp [seenM]
theorem seenM_del (m : List (Int × Value)) (c : Int) : mdel (seenM m) c = seenM (mdel m c) := by
  unfold mdel seenM
  rw [List.filter_map]
  rfl
theorem seenM_len (m : List (Int × Value)) : (seenM m).length = m.length := by simp [seenM]
structure E1 (s first : Int) (B : Jb) : Prop where
  ok : B.ok
  so : B.so = true
  ov : B.ov = false
  nx : B.nx = first
  kept : KeptE B.m first
  nd : mnd B.m
  ne : B.m ≠ []
  lo : 18446744073709551360 ≤ first ∧ first < 18446744073709551616
def S1 (s : Int) (j : Nat) (fv : Int) (B : Jb) : Prop := (j = 0 ∧ B = Jb.init 0 s ∧ U6 s) ∨ (0 < j ∧ E1 s fv B)
def firstV (j : Nat) (fv ctr : Int) : Int := if j = 0 then ctr else fv
def wantE (fv ctr : Int) (B : Jb) : Int := if ctr < fv then 161 else if (mget B.m ctr).isSome then 160 else 0
theorem put1 {s : Int} {j : Nat} {fv : Int} {B : Jb} (h : S1 s j fv B) {n : Int} (hn : 0 ≤ n ∧ n < 256) :
    ∃ B', B.put (18446744073709551615 - n) 0 (.int .u8 n) = (B', wantE (firstV j fv (18446744073709551615 - n)) (18446744073709551615 - n) B) ∧
      (wantE (firstV j fv (18446744073709551615 - n)) (18446744073709551615 - n) B = 0 → (mget B.m (18446744073709551615 - n)).isSome = false ∧ B'.m = mput B.m (18446744073709551615 - n) (.int .u8 n)) ∧
      (wantE (firstV j fv (18446744073709551615 - n)) (18446744073709551615 - n) B ≠ 0 → B'.m = B.m) ∧ S1 s (j + 1) (firstV j fv (18446744073709551615 - n)) B' := by
  obtain ⟨c, hc⟩ : ∃ c, (18446744073709551615 : Int) - n = c := ⟨_, rfl⟩
  rw [hc]
  have hcu : U6 c := ⟨by omega, by omega⟩
  have h0 : wr 0 = 0 := wr_in ⟨by omega, by omega⟩
  rcases h with ⟨rfl, rfl, hs⟩ | ⟨hj, h⟩
  · have e : wantE (firstV 0 fv c) c (Jb.init 0 s) = 0 := by
      unfold wantE firstV
      rw [if_pos rfl, if_neg (by omega), if_neg (by simp [Jb.init, mget])]
    rw [e]
    have hp : (Jb.init 0 s).put c 0 (.int .u8 n) = (⟨0, s, true, false, c, 0, c, [(c, .int .u8 n)], wr 1, 0, 0, 0, 0, 0⟩, 0) := by
      simp [Jb.put, Jb.put0, Jb.some1, Jb.init, Jb.late, mget, mput, h0]
    refine ⟨_, hp, fun _ => ⟨by simp [Jb.init, mget], by simp [Jb.init, mput, mget]⟩, fun h => absurd rfl h, .inr ⟨Nat.zero_lt_one, ?_⟩⟩
    have hk := Jb.put_ok (x := .int .u8 n) (Jb.init_ok (d := 0) U6_0 hs) hcu (now := 0) U6_0
    rw [hp] at hk
    refine ⟨hk, rfl, rfl, rfl, ?_, List.pairwise_singleton _ _, by simp, ⟨by show _ ≤ c; omega, by show c < _; omega⟩⟩
    intro p hp
    rw [List.mem_singleton.1 hp]
    exact ⟨n, rfl, hn, hc.symm, Int.le_refl _⟩
  · have hf : firstV j fv c = fv := if_neg (by omega)
    rw [hf]
    have hk := Jb.put_ok (x := .int .u8 n) h.ok hcu (now := 0) U6_0
    have hs1 : B.some1 c 0 = B := by unfold Jb.some1; rw [if_pos h.so]
    unfold Jb.put at hk ⊢
    rw [hs1] at hk ⊢
    unfold Jb.put0 Jb.late at hk ⊢
    rw [h.ov, h.nx, Bool.false_or] at hk ⊢
    unfold wantE
    by_cases h1 : c < fv
    · simp only [h1, decide_true, if_true] at hk ⊢
      exact ⟨_, rfl, fun h => absurd h (by decide), fun _ => rfl, .inr ⟨by omega, ⟨hk, h.so, rfl, rfl, h.kept, h.nd, h.ne, h.lo⟩⟩⟩
    · simp only [h1, decide_false, if_false, Bool.false_eq_true] at hk ⊢
      by_cases h2 : (mget B.m c).isSome = true
      · simp only [h2, if_true] at hk ⊢
        exact ⟨_, rfl, fun h => absurd h (by decide), fun _ => by trivial, .inr ⟨by omega, ⟨hk, h.so, rfl, rfl, h.kept, h.nd, h.ne, h.lo⟩⟩⟩
      · have h3 : wr (c - fv) = c - fv := wr_in ⟨by omega, by have := h.lo; omega⟩
        have h4 : ¬ 512 < wr (c - fv) := by rw [h3]; have := h.lo; omega
        simp only [h2, h4, if_false, Bool.false_eq_true] at hk ⊢
        refine ⟨_, rfl, fun _ => ⟨trivial, rfl⟩, fun h => absurd rfl h, .inr ⟨by omega, ⟨hk, h.so, rfl, rfl, ?_, mput_nd h.nd _ _, ?_, h.lo⟩⟩⟩
        · intro p hp
          rcases mput_mem.1 hp with rfl | ⟨h5, _⟩
          · exact ⟨n, rfl, hn, hc.symm, by dsimp only; omega⟩
          · exact h.kept p h5
        · intro he
          have := mput_len (m := B.m) (k := c) (v := Value.int .u8 n)
          dsimp only at he
          rw [he, if_neg h2] at this
          simp at this
/-- The second round's. -/
structure E2 (s first c : Int) (B : Jb) : Prop where
  ok : B.ok
  so : B.so = true
  ov : B.ov = decide (c = 18446744073709551616)
  nx : B.nx = wr c
  kept : KeptE B.m c
  nd : mnd B.m
  lo : 18446744073709551360 ≤ first ∧ first < 18446744073709551616
  hc : first ≤ c ∧ c ≤ 18446744073709551616
  mv : first < c ∨ B.m ≠ []
theorem E1.two {s first : Int} {B : Jb} (h : E1 s first B) : E2 s first first B :=
  ⟨h.ok, h.so, by rw [h.ov]; have := h.lo; exact (decide_eq_false (by omega)).symm, by rw [h.nx, wr_in (by have := h.lo; omega)], h.kept, h.nd, h.lo, ⟨Int.le_refl _, by have := h.lo; omega⟩, .inr h.ne⟩
theorem E2.below {s first c : Int} {B : Jb} (h : E2 s first c B) (hn : B.m ≠ []) : c < 18446744073709551616 := by
  cases hm : B.m with
  | nil => exact absurd hm hn
  | cons p m =>
    obtain ⟨v, _, h2, h3, h4⟩ := h.kept p (by rw [hm]; exact .head _)
    omega
theorem next2 {s first c : Int} {B : Jb} (h : E2 s first c B) (hn : B.m ≠ []) (z : Value) :
    B.next 18446744073709551615 z = (B.step, (mget B.m c).getD z, c, !(mget B.m c).isSome, true) ∧ B.step.m = mdel B.m c ∧ E2 s first (c + 1) B.step ∧ ((mget B.m c).isSome = true → (mget B.m c).getD z = .int .u8 (18446744073709551615 - c) ∧ 0 ≤ 18446744073709551615 - c ∧ 18446744073709551615 - c < 256) := by
  have hb := h.below hn
  have hx : B.nx = c := by rw [h.nx, wr_in (by have := h.lo; have := h.hc; omega)]
  have hd : B.isDue 18446744073709551615 = true := by
    unfold Jb.isDue
    have := (Jb.due_u h.ok B.nx).2
    rw [Bool.and_eq_true]
    exact ⟨by simpa using hn, decide_eq_true (by omega)⟩
  refine ⟨by unfold Jb.next; rw [if_pos hd, hx], by unfold Jb.step; rw [hx], ?_, ?_⟩
  · refine ⟨Jb.step_ok h.ok, h.so, ?_, ?_, ?_, mdel_nd h.nd _, h.lo, ⟨by have := h.hc; omega, by omega⟩, .inl (by have := h.hc; omega)⟩
    · unfold Jb.step
      dsimp only
      rw [hx]
      have : wr (c + 1) = 0 ↔ c + 1 = 18446744073709551616 := by
        unfold wr; rw [IntKind.wrap_u64]; have := h.lo; have := h.hc; omega
      exact decide_eq_decide.2 this
    · unfold Jb.step
      dsimp only
      rw [hx]
    · intro p hp
      unfold Jb.step at hp
      dsimp only at hp
      rw [hx] at hp
      obtain ⟨h1, h2⟩ := mdel_mem.1 hp
      obtain ⟨v, a1, a2, a3, a4⟩ := h.kept p h1
      exact ⟨v, a1, a2, a3, by omega⟩
  · intro hs
    obtain ⟨x, hx⟩ := Option.isSome_iff_exists.1 hs
    obtain ⟨v, a1, a2, a3, _⟩ := h.kept _ ((mget_some h.nd).1 hx)
    dsimp only at a1 a3
    rw [hx, Option.getD_some, a1]
    exact ⟨congrArg _ (by omega), by omega, by omega⟩
theorem end2 {s first c : Int} {B : Jb} (h : E2 s first c B) (hn : B.m = []) (z x : Value) :
    B.next 18446744073709551615 z = (B, z, 0, false, false) ∧ (B.put 18446744073709551615 0 x).2 = (if wr c = 0 then 161 else 0) ∧ ((B.put 18446744073709551615 0 x).1.put first 0 x).2 = 161 := by
  have hm := h.mv.resolve_right (fun h => h hn)
  have hs1 : ∀ c', B.some1 c' 0 = B := fun c' => by unfold Jb.some1; rw [if_pos h.so]
  have hw : wr c = 0 ↔ c = 18446744073709551616 := by
    unfold wr; rw [IntKind.wrap_u64]; have := h.lo; have := h.hc; omega
  refine ⟨by unfold Jb.next Jb.isDue; rw [hn]; rfl, ?_⟩
  by_cases hc : c = 18446744073709551616
  · have hov : B.ov = true := by rw [h.ov]; exact decide_eq_true hc
    rw [if_pos (hw.2 hc)]
    have hp : B.put 18446744073709551615 0 x = ({ B with t := wr (B.t + 1) }, 161) := by
      unfold Jb.put; rw [hs1]; unfold Jb.put0 Jb.late; rw [hov]; rfl
    rw [hp]
    refine ⟨rfl, ?_⟩
    unfold Jb.put Jb.some1
    dsimp only
    rw [if_pos h.so]
    unfold Jb.put0 Jb.late
    dsimp only
    rw [hov]
    rfl
  · have hov : B.ov = false := by rw [h.ov]; exact decide_eq_false hc
    rw [if_neg (fun h => hc (hw.1 h))]
    have hnx : B.nx = c := by rw [h.nx, wr_in (by have := h.lo; have := h.hc; omega)]
    have hcl := h.hc
    have hlo := h.lo
    have h3 : wr (18446744073709551615 - c) = 18446744073709551615 - c := wr_in ⟨by omega, by omega⟩
    have hp : B.put 18446744073709551615 0 x = ({ B with m := [(18446744073709551615, x)], k := wr (B.k + 1) }, 0) := by
      unfold Jb.put; rw [hs1]; unfold Jb.put0 Jb.late
      rw [hov, hnx, hn, h3, decide_eq_false (by omega), if_neg (by decide), if_neg (by simp [mget]), if_neg (by omega)]
      rfl
    rw [hp]
    refine ⟨rfl, ?_⟩
    unfold Jb.put Jb.some1
    dsimp only
    rw [if_pos h.so]
    unfold Jb.put0 Jb.late
    dsimp only
    rw [hov, hnx, decide_eq_true hm]
    rfl
end Go.Proofs.Ytklbmgfpnafdlaa
