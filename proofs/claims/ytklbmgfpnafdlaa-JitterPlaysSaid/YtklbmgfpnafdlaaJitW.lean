/- JitterOnce: what the calls come to, in plain Lean. -/
import Derived.Test.YtklbmgfpnafdlaaJitP
namespace Go.Proofs.Ytklbmgfpnafdlaa
open Go Go.RowKit
def vW (c : Int) : Value := .int .u32 c
def mapW (m : List (Int × Int)) : List (Int × Value) := m.map fun p => (p.1, vW p.2)
theorem mapW_get (m : List (Int × Int)) (c : Int) : mget (mapW m) c = (mget m c).map vW := by
  unfold mget mapW
  rw [List.find?_map]
  cases h : m.find? ((fun p => decide (p.1 = c)) ∘ fun p : Int × Int => (p.1, vW p.2)) with
  | none =>
    have e : m.find? (fun p => decide (p.1 = c)) = none := h
    rw [e]
    rfl
  | some p =>
    have e : m.find? (fun p => decide (p.1 = c)) = some p := h
    rw [e]
    rfl
theorem mapW_put (m : List (Int × Int)) (c x : Int) : mput (mapW m) c (vW x) = mapW (mput m c x) := by
  unfold mput
  rw [mapW_get]
  cases mget m c with
  | none => simp [mapW]
  | some v =>
    simp only [Option.map_some, Option.isSome_some, if_true]
    unfold mapW
    rw [List.map_map, List.map_map]
    apply List.map_congr_left
    intro p _
    dsimp only [Function.comp]
    split <;> rfl
theorem mapW_del (m : List (Int × Int)) (c : Int) : mdel (mapW m) c = mapW (mdel m c) := by
  unfold mdel mapW
  rw [List.filter_map]
  rfl
theorem mapW_len (m : List (Int × Int)) : (mapW m).length = m.length := by simp [mapW]
/-- Where the calls are. -/
structure On where
  B : Jb
  now : Int
  so : Bool
  la : Int
  fi : Int
  tm : Int
  m : List (Int × Int)
  pu : Int
  pl : Int
structure OnI (d s : Int) (j : Nat) (o : On) : Prop where
  ok : o.B.ok
  hd : o.B.d = d
  hs : o.B.s = s
  dr : 0 ≤ d ∧ d ≤ 4294967296
  sr : 0 < s ∧ s ≤ 4294967296
  now : 0 ≤ o.now ∧ o.now ≤ (j : Int) * 1048576
  no : o.pu = 0 → o.B.so = false ∧ o.m = [] ∧ o.so = false
  so : o.pu ≠ 0 → o.B.so = true ∧ o.B.fi = o.fi ∧ o.B.tm = o.tm ∧ 0 ≤ o.tm ∧ o.tm ≤ o.now
  m : o.B.m = mapW o.m
  nd : mnd o.m
  ml : o.m.length ≤ j
  last : o.so = true → o.B.nx = wr (o.la + 1)
  cnt : o.B.k + o.B.t + o.B.e + o.B.f = o.pu
  pos : 0 ≤ o.B.k ∧ 0 ≤ o.B.t ∧ 0 ≤ o.B.e ∧ 0 ≤ o.B.f ∧ 0 ≤ o.pl
  p : o.B.p = o.pl
  k : o.B.k = o.pl + o.m.length
  pu : 0 ≤ o.pu ∧ o.pu ≤ j
  l : 0 ≤ o.B.l ∧ o.B.l ≤ j
  kU : (∀ q ∈ o.m, U6 q.1)
def On.init (d s : Int) : On := ⟨Jb.init d s, 0, false, 0, 0, 0, [], 0, 0⟩
theorem on_init {d s : Int} (hd : 0 ≤ d ∧ d ≤ 4294967296) (hs : 0 < s ∧ s ≤ 4294967296) : OnI d s 0 (On.init d s) where
  ok := Jb.init_ok ⟨hd.1, by omega⟩ ⟨by omega, by omega⟩
  hd := rfl
  hs := rfl
  dr := hd
  sr := hs
  now := ⟨Int.le_refl _, Int.le_refl _⟩
  no := fun _ => ⟨rfl, rfl, rfl⟩
  so := fun h => absurd rfl h
  m := rfl
  nd := List.Pairwise.nil
  ml := Nat.le_refl _
  last := fun h => nomatch h
  cnt := rfl
  pos := ⟨Int.le_refl _, Int.le_refl _, Int.le_refl _, Int.le_refl _, Int.le_refl _⟩
  p := rfl
  k := rfl
  pu := ⟨Int.le_refl _, Int.le_refl _⟩
  l := ⟨Int.le_refl _, Int.le_refl _⟩
  kU := fun _ h => nomatch h
/-- The time goes on. -/
def On.tick (o : On) (x : Int) : On := { o with now := o.now + x }
theorem on_tick {d s : Int} {j : Nat} {o : On} (h : OnI d s j o) {x : Int} (hx : 0 ≤ x ∧ x < 1048576) : OnI d s (j + 1) (o.tick x) := by
  have h1 := h.now
  have h2 := h.pu
  have h3 := h.l
  have h4 := h.ml
  refine { h with now := ?_, so := ?_, pu := ⟨h2.1, ?_⟩, l := ⟨h3.1, ?_⟩, ml := ?_ }
  · show 0 ≤ o.now + x ∧ o.now + x ≤ _
    constructor
    · omega
    · have : (((j + 1 : Nat) : Int)) * 1048576 = (j : Int) * 1048576 + 1048576 := by rw [Int.natCast_add]; omega
      omega
  · intro hp
    obtain ⟨a, b, c, e, f⟩ := h.so hp
    exact ⟨a, b, c, e, by show o.tm ≤ o.now + x; omega⟩
  · show o.m.length ≤ _; omega
  · have := h2.2; show o.pu ≤ _; omega
  · have := h3.2; show o.B.l ≤ _; omega
/-- A call of Put. -/
def On.put (o : On) (ctr x : Int) : On :=
  { o with
    B := (o.B.put ctr o.now (vW x)).1
    fi := if o.pu = 0 then ctr else o.fi
    tm := if o.pu = 0 then o.now else o.tm
    pu := o.pu + 1
    m := if (o.B.put ctr o.now (vW x)).2 = 0 then mput o.m ctr x else o.m }
theorem wr1 {x : Int} (h : 0 ≤ x ∧ x ≤ 300) : wr (x + 1) = x + 1 := wr_in ⟨by omega, by omega⟩
theorem on_put {d s : Int} {j : Nat} {o : On} (h : OnI d s j o) (h0 : o.pu < j) (hml : o.m.length < j) (hj : j ≤ 200) {ctr x : Int} (hc : U6 ctr) :
    OnI d s j (o.put ctr x) ∧ ((o.B.put ctr o.now (vW x)).2 = 0 → mget o.m ctr = none) := by
  have hnow := h.now
  have hjn : (j : Int) * 1048576 ≤ 209715200 := by
    have : (j : Int) ≤ 200 := by omega
    omega
  have hnU : U6 o.now := ⟨hnow.1, by omega⟩
  have hk := Jb.put_ok (x := vW x) h.ok hc hnU
  have hpos := h.pos
  have hcnt := h.cnt
  have hpu := h.pu
  have w1 : wr (o.B.k + 1) = o.B.k + 1 := wr1 ⟨by omega, by omega⟩
  have w2 : wr (o.B.t + 1) = o.B.t + 1 := wr1 ⟨by omega, by omega⟩
  have w3 : wr (o.B.e + 1) = o.B.e + 1 := wr1 ⟨by omega, by omega⟩
  have w4 : wr (o.B.f + 1) = o.B.f + 1 := wr1 ⟨by omega, by omega⟩
  have hp0 : o.B.p = o.pl := h.p
  have hk0 := h.k
  have hll := h.l
  -- what becomes of the buffer ahead of the count
  obtain ⟨B1, hB1⟩ : ∃ B1, o.B.some1 ctr o.now = B1 := ⟨_, rfl⟩
  have s1 : B1.d = d ∧ B1.s = s ∧ B1.so = true ∧ B1.fi = (if o.pu = 0 then ctr else o.fi) ∧ B1.tm = (if o.pu = 0 then o.now else o.tm) ∧ B1.m = o.B.m ∧ B1.k = o.B.k ∧ B1.p = o.B.p ∧ B1.l = o.B.l ∧ B1.t = o.B.t ∧ B1.e = o.B.e ∧ B1.f = o.B.f ∧ (o.so = true → B1.nx = wr (o.la + 1)) := by
    subst hB1
    unfold Jb.some1
    by_cases hp : o.pu = 0
    · obtain ⟨a, b, c⟩ := h.no hp
      rw [a, if_pos hp, if_pos hp]
      exact ⟨h.hd, h.hs, rfl, rfl, rfl, rfl, rfl, rfl, rfl, rfl, rfl, rfl, fun e => by rw [c] at e; cases e⟩
    · obtain ⟨a, b, c, e, f⟩ := h.so hp
      rw [a, if_neg hp, if_neg hp]
      exact ⟨h.hd, h.hs, a, b, c, rfl, rfl, rfl, rfl, rfl, rfl, rfl, h.last⟩
  have hput : o.B.put ctr o.now (vW x) = B1.put0 ctr (vW x) := by unfold Jb.put; rw [hB1]
  have htm : 0 ≤ (if o.pu = 0 then o.now else o.tm) ∧ (if o.pu = 0 then o.now else o.tm) ≤ o.now := by
    split
    · exact ⟨hnow.1, Int.le_refl _⟩
    · rename_i hp
      exact (h.so hp).2.2.2
  obtain ⟨a1, a2, a3, a4, a5, a6, a7, a8, a9, a10, a11, a12, a13⟩ := s1
  have mk : ∀ (B2 : Jb) (m2 : List (Int × Int)), B2.ok → B2.d = d → B2.s = s → B2.so = true → B2.fi = (if o.pu = 0 then ctr else o.fi) → B2.tm = (if o.pu = 0 then o.now else o.tm) → B2.m = mapW m2 → mnd m2 → m2.length ≤ j → (o.so = true → B2.nx = wr (o.la + 1)) → B2.k + B2.t + B2.e + B2.f = o.pu + 1 → (0 ≤ B2.k ∧ 0 ≤ B2.t ∧ 0 ≤ B2.e ∧ 0 ≤ B2.f) → B2.p = o.pl → B2.k = o.pl + m2.length → B2.l = o.B.l → (∀ q ∈ m2, U6 q.1) →
      OnI d s j ⟨B2, o.now, o.so, o.la, (if o.pu = 0 then ctr else o.fi), (if o.pu = 0 then o.now else o.tm), m2, o.pu + 1, o.pl⟩ := by
    intro B2 m2 b1 b2 b3 b4 b5 b6 b7 b8 b9 b10 b11 b12 b13 b14 b15 b16
    exact { ok := b1, hd := b2, hs := b3, dr := h.dr, sr := h.sr, now := h.now, no := fun e => by dsimp only at e; omega, so := fun _ => ⟨b4, b5, b6, htm.1, htm.2⟩, m := b7, nd := b8, ml := b9, last := b10, cnt := b11, pos := ⟨b12.1, b12.2.1, b12.2.2.1, b12.2.2.2, h.pos.2.2.2.2⟩, p := b13, k := b14, pu := ⟨by dsimp only; omega, by dsimp only; omega⟩, l := by dsimp only; rw [b15]; exact h.l, kU := b16 }
  unfold On.put
  rw [hput]
  rw [hput] at hk
  unfold Jb.put0 at hk ⊢
  by_cases c1 : B1.late ctr = true
  · simp only [c1, if_true] at hk ⊢
    rw [if_neg (show ¬ (161 : Int) = 0 by decide)]
    exact ⟨mk _ _ hk a1 a2 a3 a4 a5 (a6.trans h.m) h.nd h.ml a13 (by dsimp only; rw [a10, a7, a11, a12, w2]; omega) (by dsimp only; rw [a10, a7, a11, a12, w2]; omega) (a8.trans hp0) (a7.trans hk0) a9 h.kU, fun e => absurd e (by decide)⟩
  · simp only [c1, if_false, Bool.false_eq_true] at hk ⊢
    by_cases c2 : (mget B1.m ctr).isSome = true
    · simp only [c2, if_true] at hk ⊢
      rw [if_neg (show ¬ (160 : Int) = 0 by decide)]
      exact ⟨mk _ _ hk a1 a2 a3 a4 a5 (a6.trans h.m) h.nd h.ml a13 (by dsimp only; rw [a10, a7, a11, a12, w3]; omega) (by dsimp only; rw [a10, a7, a11, a12, w3]; omega) (a8.trans hp0) (a7.trans hk0) a9 h.kU, fun e => absurd e (by decide)⟩
    · simp only [c2, if_false, Bool.false_eq_true] at hk ⊢
      by_cases c3 : 512 < wr (ctr - B1.nx)
      · simp only [c3, if_true] at hk ⊢
        rw [if_neg (show ¬ (7 : Int) = 0 by decide)]
        exact ⟨mk _ _ hk a1 a2 a3 a4 a5 (a6.trans h.m) h.nd h.ml a13 (by dsimp only; rw [a10, a7, a11, a12, w4]; omega) (by dsimp only; rw [a10, a7, a11, a12, w4]; omega) (a8.trans hp0) (a7.trans hk0) a9 h.kU, fun e => absurd e (by decide)⟩
      · simp only [c3, if_false] at hk ⊢
        rw [if_pos trivial]
        have hno : mget o.m ctr = none := by
          rw [a6, h.m, mapW_get] at c2
          cases e : mget o.m ctr with
          | none => rfl
          | some v => rw [e] at c2; exact absurd rfl c2
        have hlen : (mput o.m ctr x).length = o.m.length + 1 := by rw [mput_len, hno]; rfl
        exact ⟨mk _ _ hk a1 a2 a3 a4 a5 (by dsimp only; rw [a6, h.m, mapW_put]) (mput_nd h.nd _ _) (by rw [hlen]; omega) a13 (by dsimp only; rw [a10, a7, a11, a12, w1]; omega) (by dsimp only; rw [a10, a7, a11, a12, w1]; omega) (a8.trans hp0) (by dsimp only; rw [hlen, a7, w1]; omega) a9 (fun q hq => by
          rcases mput_mem.1 hq with rfl | ⟨hq, _⟩
          · exact hc
          · exact h.kU q hq), fun _ => hno⟩
/-- A call of Next. -/
def On.next (o : On) : On :=
  { o with
    B := o.B.step
    so := true
    la := o.B.nx
    m := mdel o.m o.B.nx
    pl := if (mget o.m o.B.nx).isSome then o.pl + 1 else o.pl }
theorem del_len {m : List (Int × Int)} (hd : mnd m) (c : Int) : (mdel m c).length + (if (mget m c).isSome then 1 else 0) = m.length := by
  induction m with
  | nil => rfl
  | cons p m ih =>
    obtain ⟨h1, h2⟩ := List.pairwise_cons.1 hd
    have ih := ih h2
    by_cases h : p.1 = c
    · have e1 : mget (p :: m) c = some p.2 := by unfold mget; rw [List.find?_cons]; simp [h]
      have e2 : mget m c = none := mget_none.2 fun q hq e => h1 q hq (h.trans e.symm)
      have e3 : mdel (p :: m) c = mdel m c := by unfold mdel; rw [List.filter_cons]; simp [h]
      rw [e1, e3]
      rw [e2] at ih
      simp at ih ⊢
      omega
    · have e1 : mget (p :: m) c = mget m c := by unfold mget; rw [List.find?_cons]; simp [h]
      have e3 : mdel (p :: m) c = p :: mdel m c := by unfold mdel; rw [List.filter_cons]; simp [h]
      rw [e1, e3, List.length_cons, List.length_cons]
      omega
theorem on_next {d s : Int} {j : Nat} {o : On} (h : OnI d s j o) (hl : o.B.l < j) (hj : j ≤ 200) (hd : o.B.isDue o.now = true) :
    OnI d s j o.next ∧ (o.so = true → o.B.nx = wr (o.la + 1)) ∧ wr (o.tm + d) ≤ o.now ∧ wr (o.B.nx - o.fi) ≤ (wr (wr (o.now - o.tm) - d)) / s := by
  have hnow := h.now
  have hjn : (j : Int) * 1048576 ≤ 209715200 := by
    have : (j : Int) ≤ 200 := by omega
    omega
  unfold Jb.isDue at hd
  rw [Bool.and_eq_true] at hd
  obtain ⟨hd1, hd2⟩ := hd
  have hd2 := of_decide_eq_true hd2
  have hpu : o.pu ≠ 0 := fun e => by
    obtain ⟨_, b, _⟩ := h.no e
    rw [h.m, b] at hd1
    cases hd1
  obtain ⟨s1, s2, s3, s4, s5⟩ := h.so hpu
  have hdr := h.dr
  have hsr := h.sr
  have hw := wr_u (o.B.nx - o.fi)
  have hm0 : 0 ≤ wr (o.B.nx - o.fi) * s := Int.mul_nonneg hw.1 (by omega)
  have hdue : o.tm + d + wr (o.B.nx - o.fi) * s ≤ o.now := by
    unfold Jb.due at hd2
    rw [s2, s3, h.hd, h.hs] at hd2
    unfold plF at hd2
    split at hd2
    · omega
    · rw [if_pos (by omega)] at hd2
      split at hd2 <;> omega
  have q1 : wr (o.tm + d) = o.tm + d := wr_in ⟨by omega, by omega⟩
  have q2 : wr (o.now - o.tm) = o.now - o.tm := wr_in ⟨by omega, by omega⟩
  have q3 : wr (o.now - o.tm - d) = o.now - o.tm - d := wr_in ⟨by omega, by omega⟩
  refine ⟨?_, h.last, by rw [q1]; omega, ?_⟩
  · have hpos := h.pos
    have hcnt := h.cnt
    have hpr := h.pu
    have hk0 := h.k
    have hp0 := h.p
    have hll := h.l
    have hlen := del_len h.nd o.B.nx
    have w1 : wr (o.B.p + 1) = o.B.p + 1 := wr1 ⟨by omega, by omega⟩
    have w2 : wr (o.B.l + 1) = o.B.l + 1 := wr1 ⟨by omega, by omega⟩
    have hgs : (mget o.B.m o.B.nx).isSome = (mget o.m o.B.nx).isSome := by rw [h.m, mapW_get]; simp
    have e1 : o.B.step.p = (if (mget o.m o.B.nx).isSome then o.pl + 1 else o.pl) := by
      show (if (mget o.B.m o.B.nx).isSome then wr (o.B.p + 1) else o.B.p) = _
      rw [hgs, w1, hp0]
    have e2 : 0 ≤ o.B.step.l ∧ o.B.step.l ≤ j := by
      show 0 ≤ (if (mget o.B.m o.B.nx).isSome then o.B.l else wr (o.B.l + 1)) ∧ (if (mget o.B.m o.B.nx).isSome then o.B.l else wr (o.B.l + 1)) ≤ (j : Int)
      rw [w2]
      split <;> omega
    have e3 : o.B.k = (if (mget o.m o.B.nx).isSome then o.pl + 1 else o.pl) + ((mdel o.m o.B.nx).length : Int) := by
      rw [hk0]
      split at hlen <;> (rename_i hc; simp only [hc, if_true, if_false, Bool.false_eq_true]; omega)
    exact { ok := Jb.step_ok h.ok, hd := h.hd, hs := h.hs, dr := hdr, sr := hsr, now := hnow, no := fun e => absurd e hpu, so := fun _ => ⟨s1, s2, s3, s4, s5⟩, m := by show mdel o.B.m o.B.nx = _; rw [h.m, mapW_del]; rfl, nd := mdel_nd h.nd _, ml := Nat.le_trans (mdel_le _ _) h.ml, last := fun _ => rfl, cnt := h.cnt, pos := ⟨hpos.1, hpos.2.1, hpos.2.2.1, hpos.2.2.2.1, by show 0 ≤ (if (mget o.m o.B.nx).isSome then o.pl + 1 else o.pl); split <;> omega⟩, p := e1, k := e3, pu := hpr, l := e2, kU := fun q hq => h.kU q (mdel_mem.1 hq).1 }
  · rw [q2, q3]
    exact (Int.le_ediv_iff_mul_le (by omega)).2 (by omega)
theorem on_get {d s : Int} {j : Nat} {o : On} (h : OnI d s j o) (c : Int) : mget o.B.m c = (mget o.m c).map vW := by rw [h.m, mapW_get]
/-- The sums' check. -/
theorem on_sums {d s : Int} {j : Nat} {o : On} (h : OnI d s j o) (hj : j ≤ 200) : wr (wr (wr (o.B.k + o.B.t) + o.B.e) + o.B.f) = o.pu ∧ o.B.p = o.pl ∧ o.B.k = wr (o.pl + (o.m.length : Int)) := by
  have hpos := h.pos
  have hcnt := h.cnt
  have hpr := h.pu
  have hk0 := h.k
  have r1 : wr (o.B.k + o.B.t) = o.B.k + o.B.t := wr_in ⟨by omega, by omega⟩
  have r2 : wr (o.B.k + o.B.t + o.B.e) = o.B.k + o.B.t + o.B.e := wr_in ⟨by omega, by omega⟩
  have r3 : wr (o.B.k + o.B.t + o.B.e + o.B.f) = o.B.k + o.B.t + o.B.e + o.B.f := wr_in ⟨by omega, by omega⟩
  have r4 : wr (o.pl + (o.m.length : Int)) = o.pl + (o.m.length : Int) := wr_in ⟨by omega, by omega⟩
  refine ⟨by rw [r1, r2, r3]; exact hcnt, h.p, by rw [r4]; exact hk0⟩
end Go.Proofs.Ytklbmgfpnafdlaa
