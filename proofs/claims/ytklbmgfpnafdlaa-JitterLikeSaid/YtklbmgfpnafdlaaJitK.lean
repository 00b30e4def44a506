/- Two buffers to which the same things come: what the calls come to, in plain Lean. -/
import Derived.Test.YtklbmgfpnafdlaaJitG
namespace Go.Proofs.Ytklbmgfpnafdlaa
open Go Go.RowKit
def vU (c : Int) : Value := .int .u64 c
/-- Filled in time: nothing is played yet. -/
structure Fl (s n : Int) (B : Jb) : Prop where
  ok : B.ok
  so : B.so = true
  ov : B.ov = false
  fi : B.fi = 0
  tm : B.tm = 5
  nx : B.nx = 0
  d : B.d = 1000000
  st : B.s = s
  l : B.l = 0
  m : ∀ p ∈ B.m, (0 ≤ p.1 ∧ p.1 < n) ∧ p.2 = vU p.1
  nd : mnd B.m
theorem fl0 {s n : Int} (hs : U6 s) (hn : 0 < n) : Fl s n ((Jb.init 1000000 s).put 0 5 (vU 0)).1 ∧ ((Jb.init 1000000 s).put 0 5 (vU 0)).2 = 0 ∧ ((Jb.init 1000000 s).put 0 5 (vU 0)).1.m = [(0, vU 0)] := by
  have h0 : wr 0 = 0 := wr_in ⟨by omega, by omega⟩
  have hp : (Jb.init 1000000 s).put 0 5 (vU 0) = (⟨1000000, s, true, false, 0, 5, 0, [(0, vU 0)], wr 1, 0, 0, 0, 0, 0⟩, 0) := by
    simp [Jb.put, Jb.put0, Jb.some1, Jb.init, Jb.late, mget, mput, h0]
  have hk := Jb.put_ok (x := vU 0) (Jb.init_ok (d := 1000000) ⟨by omega, by omega⟩ hs) U6_0 (now := 5) ⟨by omega, by omega⟩
  rw [hp] at hk ⊢
  refine ⟨⟨hk, rfl, rfl, rfl, rfl, rfl, rfl, rfl, rfl, ?_, List.pairwise_singleton _ _⟩, rfl, rfl⟩
  intro p hp
  rw [List.mem_singleton.1 hp]
  exact ⟨⟨Int.le_refl _, hn⟩, rfl⟩
theorem flP {s n c now : Int} {B : Jb} (h : Fl s n B) (hc : 0 ≤ c ∧ c < n) (hn : n ≤ 255) (hw : U6 now) :
    Fl s n (B.put c now (vU c)).1 ∧ (∀ j, (mget B.m j).isSome = true → (mget (B.put c now (vU c)).1.m j).isSome = true) ∧ (mget (B.put c now (vU c)).1.m c).isSome = true ∧ ((mget B.m c).isSome = false → (B.put c now (vU c)).2 = 0 ∧ ∀ p ∈ (B.put c now (vU c)).1.m, p ∈ B.m ∨ p.1 = c) := by
  have hcU : U6 c := ⟨by omega, by omega⟩
  have hk := Jb.put_ok (x := vU c) h.ok hcU hw
  have hs1 : B.some1 c now = B := by unfold Jb.some1; rw [if_pos h.so]
  unfold Jb.put at hk ⊢
  rw [hs1] at hk ⊢
  have h3 : wr (c - B.nx) = c := by rw [h.nx, Int.sub_zero]; exact wr_in hcU
  have hlate : B.late c = false := by unfold Jb.late; rw [h.ov, h.nx, Bool.false_or]; exact decide_eq_false (by omega)
  unfold Jb.put0 at hk ⊢
  rw [hlate, if_neg (by decide)] at hk ⊢
  by_cases h2 : (mget B.m c).isSome = true
  · rw [if_pos h2] at hk ⊢
    exact ⟨⟨hk, h.so, h.ov, h.fi, h.tm, h.nx, h.d, h.st, h.l, h.m, h.nd⟩, fun j hj => hj, h2, fun e => by rw [h2] at e; cases e⟩
  · rw [if_neg h2, if_neg (by rw [h3]; omega)] at hk ⊢
    refine ⟨⟨hk, h.so, h.ov, h.fi, h.tm, h.nx, h.d, h.st, h.l, ?_, mput_nd h.nd _ _⟩, fun j hj => ?_, ?_, fun _ => ⟨rfl, fun p hp => ?_⟩⟩
    · intro p hp
      rcases mput_mem.1 hp with rfl | ⟨h5, _⟩
      · exact ⟨hc, rfl⟩
      · exact h.m p h5
    · show (mget (mput B.m c (vU c)) j).isSome = true
      rw [mget_put h.nd]
      split
      · rfl
      · exact hj
    · show (mget (mput B.m c (vU c)) c).isSome = true
      rw [mget_put h.nd, if_pos rfl]
      rfl
    · rcases mput_mem.1 hp with rfl | ⟨h5, _⟩
      · exact .inr rfl
      · exact .inl h5
/-- The first buffer, where i things have come. -/
def AS (s n : Int) (i : Nat) (B : Jb) : Prop := (i = 0 ∧ B = Jb.init 1000000 s ∧ U6 s) ∨ (0 < i ∧ Fl s n B ∧ (∀ j : Int, 0 ≤ j → j < i → (mget B.m j).isSome = true) ∧ ∀ p ∈ B.m, p.1 < (i : Int))
theorem AS.ok {s n : Int} {i : Nat} {B : Jb} (h : AS s n i B) : B.ok := by
  rcases h with ⟨_, rfl, hs⟩ | ⟨_, h, _⟩
  · exact Jb.init_ok ⟨by omega, by omega⟩ hs
  · exact h.ok
theorem AS.put {s n : Int} {i : Nat} {B : Jb} (h : AS s n i B) (hi : (i : Int) < n) (hn : n ≤ 255) : (B.put i 5 (vU i)).2 = 0 ∧ AS s n (i + 1) (B.put i 5 (vU i)).1 := by
  rcases h with ⟨rfl, rfl, hs⟩ | ⟨h0, h, hj, hp⟩
  · obtain ⟨a, b, c⟩ := fl0 (n := n) hs (by omega)
    refine ⟨b, .inr ⟨by omega, a, fun j h1 h2 => ?_, fun p hp => ?_⟩⟩
    · obtain rfl : j = 0 := by omega
      show (mget ((Jb.init 1000000 s).put 0 5 (vU 0)).1.m 0).isSome = true
      rw [c]
      rfl
    · replace hp : p ∈ ((Jb.init 1000000 s).put 0 5 (vU 0)).1.m := hp
      rw [c] at hp
      rw [List.mem_singleton.1 hp]
      show (0 : Int) < _
      omega
  · obtain ⟨a, b, c, d⟩ := flP h (c := (i : Int)) (now := 5) ⟨by omega, hi⟩ hn ⟨by omega, by omega⟩
    have hno : (mget B.m (i : Int)).isSome = false := by
      cases e : mget B.m (i : Int) with
      | none => rfl
      | some v =>
        have := hp _ ((mget_some h.nd).1 e)
        dsimp only at this
        omega
    obtain ⟨d1, d2⟩ := d hno
    refine ⟨d1, .inr ⟨by omega, a, fun j h1 h2 => ?_, fun p hp' => ?_⟩⟩
    · by_cases e : j = (i : Int)
      · rw [e]; exact c
      · exact b j (hj j h1 (by omega))
    · rcases d2 p hp' with h1 | h1
      · have := hp p h1; omega
      · omega
/-- Played up to c. -/
structure Pl (s n c : Int) (B : Jb) : Prop where
  ok : B.ok
  so : B.so = true
  fi : B.fi = 0
  tm : B.tm = 5
  nx : B.nx = c
  d : B.d = 1000000
  st : B.s = s
  l : B.l = 0
  m : ∀ p ∈ B.m, (c ≤ p.1 ∧ p.1 < n) ∧ p.2 = vU p.1
  nd : mnd B.m
  all : ∀ j, c ≤ j → j < n → (mget B.m j).isSome = true
theorem Fl.pl {s n : Int} {B : Jb} (h : Fl s n B) (ha : ∀ j, 0 ≤ j → j < n → (mget B.m j).isSome = true) : Pl s n 0 B :=
  ⟨h.ok, h.so, h.fi, h.tm, h.nx, h.d, h.st, h.l, h.m, h.nd, ha⟩
theorem mul_bd {a s : Int} (ha : 0 ≤ a ∧ a ≤ 254) (hs : 0 ≤ s ∧ s ≤ 1000) : 0 ≤ a * s ∧ a * s ≤ 254000 :=
  ⟨Int.mul_nonneg ha.1 hs.1, Int.le_trans (Int.mul_le_mul ha.2 hs.2 hs.1 (by omega)) (by omega)⟩
theorem Pl.next {s n c : Int} {B : Jb} (h : Pl s n c B) (hc : 0 ≤ c ∧ c < n) (hn : n ≤ 255) (hs : 0 ≤ s ∧ s ≤ 1000) (z : Value) :
    B.next (1000005 + (n - 1) * s) z = (B.step, vU c, c, false, true) ∧ Pl s n (c + 1) B.step := by
  have hm := h.all c (Int.le_refl _) hc.2
  obtain ⟨x, hx⟩ := Option.isSome_iff_exists.1 hm
  have hxv : x = vU c := (h.m _ ((mget_some h.nd).1 hx)).2
  have hne : B.m.isEmpty = false := by
    cases e : B.m with
    | nil => rw [e] at hx; cases hx
    | cons p m => rfl
  have hb := mul_bd (a := c) ⟨hc.1, by omega⟩ hs
  have hle : c * s ≤ (n - 1) * s := Int.mul_le_mul_of_nonneg_right (by omega) hs.1
  have hdue : B.due B.nx = 1000005 + c * s := by
    unfold Jb.due
    rw [h.fi, h.nx, h.st, h.tm, h.d, Int.sub_zero, wr_in ⟨hc.1, by omega⟩, if_neg (by omega)]
    unfold plF
    rw [if_pos (by omega), if_pos (by omega)]
    omega
  have hd : B.isDue (1000005 + (n - 1) * s) = true := by
    unfold Jb.isDue
    rw [hne, hdue]
    simp only [Bool.not_false, Bool.true_and]
    exact decide_eq_true (by omega)
  have hw1 : wr (c + 1) = c + 1 := wr_in ⟨by omega, by omega⟩
  refine ⟨by unfold Jb.next; rw [if_pos hd, h.nx, hx, hxv]; rfl, ⟨Jb.step_ok h.ok, h.so, h.fi, h.tm, ?_, h.d, h.st, ?_, ?_, mdel_nd h.nd _, ?_⟩⟩
  · show wr (B.nx + 1) = _
    rw [h.nx, hw1]
  · show (if (mget B.m B.nx).isSome then B.l else wr (B.l + 1)) = 0
    rw [h.nx, hm, if_pos rfl, h.l]
  · intro p hp
    obtain ⟨h1, h2⟩ := mdel_mem.1 (show p ∈ mdel B.m B.nx from hp)
    obtain ⟨⟨a1, a2⟩, a3⟩ := h.m p h1
    rw [h.nx] at h2
    exact ⟨⟨by omega, a2⟩, a3⟩
  · intro j h1 h2
    show (mget (mdel B.m B.nx) j).isSome = true
    rw [mget_del h.nd, h.nx, if_neg (by omega)]
    exact h.all j (by omega) h2
theorem Pl.done {s n : Int} {B : Jb} (h : Pl s n n B) (now : Int) (z : Value) : B.next now z = (B, z, 0, false, false) := by
  have hm : B.m = [] := by
    cases e : B.m with
    | nil => rfl
    | cons p m =>
      have := (h.m p (by rw [e]; exact .head _)).1
      omega
  unfold Jb.next Jb.isDue
  rw [hm]
  rfl
def gK (B : Jb) : Nat → Jb
  | 0 => B
  | k + 1 => (gK B k).step
theorem gK_pl {s : Int} {K : Nat} {B : Jb} (h : Pl s K 0 B) (hK : K ≤ 255) (hs : 0 ≤ s ∧ s ≤ 1000) : ∀ k, k ≤ K → Pl s K k (gK B k)
  | 0, _ => h
  | k + 1, hk => by
    have := (Pl.next (gK_pl h hK hs k (by omega)) ⟨by omega, by omega⟩ (by omega) hs (.int .u64 0)).2
    exact this
def ysK (K : Nat) : List (Array Value) := (List.range K).map fun (k : Nat) => (#[.int .u64 (k : Int), .int .u64 (k : Int)] : Array Value)
theorem playK {s : Int} {K : Nat} {B : Jb} (h : Pl s K 0 B) (hK : K ≤ 255) (hs : 0 ≤ s ∧ s ≤ 1000) :
    PlayS (1000005 + ((K : Int) - 1) * s) (.int .u64 0) (gK B) K (fun k => vU k) (fun k => (k : Int)) (fun _ => false) id id (ysK K) where
  ok := fun k hk => (gK_pl h hK hs k hk).ok
  step := fun k hk => (Pl.next (gK_pl h hK hs k (by omega)) ⟨by omega, by omega⟩ (by omega) hs _).1
  stop := (gK_pl h hK hs K (Nat.le_refl _)).done _ _
  c0 := rfl
  cs := fun _ _ => rfl
  cK := by simp [ysK]
  y := fun k hk _ => ⟨by simpa [ysK] using hk, by simp [ysK, List.getElem?_range hk, vU], rfl⟩
end Go.Proofs.Ytklbmgfpnafdlaa
