/- Policies: what bytes are loaded to, by the document: plain laws. -/
import Derived.Test.YtnlibngncicobaaPolK
import Derived.Test.YtnlibngncicobaaPolU
namespace Go.Proofs.Ytnlibngncicobaa
open Go Go.RowKit
def gA (bs : List Int) (i : Nat) : Bool := decide (bs.getD (i + 1) 0 = 0) && decide (bs.getD (i + 2) 0 = 0) && decide (bs.getD (i + 5) 0 = 0) && decide (bs.getD (i + 6) 0 = 0) && decide (bs.getD (i + 10) 0 ≤ 1)
def rA (bs : List Int) (i : Nat) : Ru := ⟨bs.getD i 0, 256 * bs.getD (i + 3) 0 + bs.getD (i + 4) 0, 256 * bs.getD (i + 7) 0 + bs.getD (i + 8) 0, bs.getD (i + 9) 0, decide (bs.getD (i + 10) 0 = 1)⟩
def okA (bs : List Int) (i : Nat) : Bool := gA bs i && mayU (rA bs i)
theorem getD_drop (bs : List Int) (k i : Nat) : (bs.drop k).getD i 0 = bs.getD (k + i) 0 := by simp [List.getD]
theorem okA_drop (bs : List Int) (k i : Nat) : okA (bs.drop k) i = okA bs (k + i) := by
  unfold okA gA rA
  simp only [getD_drop, Nat.add_assoc]
theorem rA_drop (bs : List Int) (k i : Nat) : rA (bs.drop k) i = rA bs (k + i) := by
  unfold rA
  simp only [getD_drop, Nat.add_assoc]
theorem eleven {B : List Int} (h : 11 ≤ B.length) : ∃ x0 x1 x2 x3 x4 x5 x6 x7 x8 x9 x10 R, B = x0 :: x1 :: x2 :: x3 :: x4 :: x5 :: x6 :: x7 :: x8 :: x9 :: x10 :: R := by
  rcases B with _ | ⟨x0, _ | ⟨x1, _ | ⟨x2, _ | ⟨x3, _ | ⟨x4, _ | ⟨x5, _ | ⟨x6, _ | ⟨x7, _ | ⟨x8, _ | ⟨x9, _ | ⟨x10, R⟩⟩⟩⟩⟩⟩⟩⟩⟩⟩⟩
  all_goals first | (exact ⟨_, _, _, _, _, _, _, _, _, _, _, _, rfl⟩) | (exfalso; simp at h)
theorem tk_len {k : Nat} {B : List Int} {W : Bool} (h : tkW k B W = false) : W = false ∧ (tkB k B W).length + k = B.length := by
  unfold tkW at h
  have h1 : tkOk k B W = true := by simpa using h
  have h2 := h1
  unfold tkOk at h2
  simp only [Bool.and_eq_true, decide_eq_true_eq, Bool.not_eq_true'] at h2
  refine ⟨h2.1, ?_⟩
  unfold tkB
  rw [if_pos h1, List.length_drop]
  omega
theorem c5_len {B : List Int} {W : Bool} (h : c5W B W = false) : W = false ∧ (c5B B W).length + 11 = B.length := by
  unfold c5W flW at h
  simp only [Bool.or_eq_false_iff] at h
  obtain ⟨h4, e5⟩ := tk_len h.1
  obtain ⟨h3, e4⟩ := tk_len h4
  obtain ⟨h2, e3⟩ := tk_len h3
  obtain ⟨h1, e2⟩ := tk_len h2
  obtain ⟨h0, e1⟩ := tk_len h1
  refine ⟨h0, ?_⟩
  have f5 : (c5B B W).length = (tkB 1 (c4B B W) (c4W B W)).length := rfl
  have f4 : (c4B B W).length = (tkB 1 (c3B B W) (c3W B W)).length := rfl
  have f3 : (c3B B W).length = (tkB 4 (c2B B W) (c2W B W)).length := rfl
  have f2 : (c2B B W).length = (tkB 4 (c1B B W) (c1W B W)).length := rfl
  have f1 : (c1B B W).length = (tkB 1 B W).length := rfl
  omega
theorem tkOk1 {x : Int} {R : List Int} : tkOk 1 (x :: R) false = true := by simp [tkOk]
theorem tkOk4 {a b c d : Int} {R : List Int} : tkOk 4 (a :: b :: c :: d :: R) false = true := by simp [tkOk]
theorem tk1 {x : Int} {R : List Int} : tkB 1 (x :: R) false = R ∧ tkW 1 (x :: R) false = false ∧ val (tkR 1 (x :: R) false) = x := by
  unfold tkB tkW tkR
  rw [tkOk1]
  refine ⟨rfl, rfl, ?_⟩
  simp [val]
theorem tk4 {a b c d : Int} {R : List Int} : tkB 4 (a :: b :: c :: d :: R) false = R ∧ tkW 4 (a :: b :: c :: d :: R) false = false ∧ val (tkR 4 (a :: b :: c :: d :: R) false) = ((a * 256 + b) * 256 + c) * 256 + d := by
  unfold tkB tkW tkR
  rw [tkOk4]
  refine ⟨rfl, rfl, ?_⟩
  simp [val]
theorem u16_mod (n : Int) : IntKind.u16.wrap n = n % 65536 := by simp [IntKind.wrap, IntKind.bits, IntKind.signed]
theorem be4 {x y : Int} (h : 0 ≤ x ∧ x < 256) (k : 0 ≤ y ∧ y < 256) : be (256 * x + y) 4 = [0, 0, x, y] := by
  unfold be beK
  simp [List.range_succ]
  omega
theorem chunk {B : List Int} (hB : Bytes B) (h : 11 ≤ B.length) : c5B B false = B.drop 11 ∧ ((c5W B false = false ∧ cX B false = false ∧ mayU (cRu B false) = true) ↔ okA B 0 = true) ∧ (okA B 0 = true → cRu B false = rA B 0 ∧ B.take 11 = encU (rA B 0)) := by
  obtain ⟨x0, x1, x2, x3, x4, x5, x6, x7, x8, x9, x10, R, rfl⟩ := eleven h
  have a0 := hB x0 (by simp)
  have a1 := hB x1 (by simp)
  have a2 := hB x2 (by simp)
  have a3 := hB x3 (by simp)
  have a4 := hB x4 (by simp)
  have a5 := hB x5 (by simp)
  have a6 := hB x6 (by simp)
  have a7 := hB x7 (by simp)
  have a8 := hB x8 (by simp)
  have a9 := hB x9 (by simp)
  have a10 := hB x10 (by simp)
  obtain ⟨B, hBB⟩ : ∃ B, x0 :: x1 :: x2 :: x3 :: x4 :: x5 :: x6 :: x7 :: x8 :: x9 :: x10 :: R = B := ⟨_, rfl⟩
  have e1 : c1B B false = x1 :: x2 :: x3 :: x4 :: x5 :: x6 :: x7 :: x8 :: x9 :: x10 :: R ∧ c1W B false = false ∧ cAc B false = x0 := by
    unfold c1B c1W cAc
    rw [← hBB]
    exact tk1
  have e2 : c2B B false = x5 :: x6 :: x7 :: x8 :: x9 :: x10 :: R ∧ c2W B false = false ∧ cFr B false = ((x1 * 256 + x2) * 256 + x3) * 256 + x4 := by
    unfold c2B c2W cFr
    rw [e1.1, e1.2.1]
    exact tk4
  have e3 : c3B B false = x9 :: x10 :: R ∧ c3W B false = false ∧ cTo B false = ((x5 * 256 + x6) * 256 + x7) * 256 + x8 := by
    unfold c3B c3W cTo
    rw [e2.1, e2.2.1]
    exact tk4
  have e4 : c4B B false = x10 :: R ∧ c4W B false = false ∧ cDo B false = x9 := by
    unfold c4B c4W cDo
    rw [e3.1, e3.2.1]
    exact tk1
  have e5 : c5B B false = R ∧ c5W B false = decide (1 < x10) ∧ cAg B false = decide (x10 = 1) := by
    unfold c5B c5W cAg flW flR
    rw [e4.1, e4.2.1, tk1.2.1, tk1.2.2, Bool.false_or]
    exact ⟨tk1.1, rfl, rfl⟩
  have g : gA B 0 = (decide (x1 = 0) && decide (x2 = 0) && decide (x5 = 0) && decide (x6 = 0) && decide (x10 ≤ 1)) := by rw [← hBB]; rfl
  have r : rA B 0 = ⟨x0, 256 * x3 + x4, 256 * x7 + x8, x9, decide (x10 = 1)⟩ := by rw [← hBB]; rfl
  have c : cRu B false = ⟨x0, (((x1 * 256 + x2) * 256 + x3) * 256 + x4) % 65536, (((x5 * 256 + x6) * 256 + x7) * 256 + x8) % 65536, x9, decide (x10 = 1)⟩ := by
    unfold cRu
    rw [e1.2.2, e2.2.2, e3.2.2, e4.2.2, e5.2.2, u16_mod, u16_mod]
  have x : cX B false = decide (1440 ≤ (if ((x1 * 256 + x2) * 256 + x3) * 256 + x4 < ((x5 * 256 + x6) * 256 + x7) * 256 + x8 then ((x5 * 256 + x6) * 256 + x7) * 256 + x8 else ((x1 * 256 + x2) * 256 + x3) * 256 + x4)) := by
    unfold cX
    rw [e2.2.2, e3.2.2]
  rw [hBB]
  have hk : okA B 0 = true → x1 = 0 ∧ x2 = 0 ∧ x5 = 0 ∧ x6 = 0 ∧ x10 ≤ 1 ∧ mayU (rA B 0) = true := by
    intro hk
    unfold okA at hk
    rw [g] at hk
    simp only [Bool.and_eq_true, decide_eq_true_eq] at hk
    obtain ⟨⟨⟨⟨⟨h1, h2⟩, h3⟩, h4⟩, h5⟩, h6⟩ := hk
    exact ⟨h1, h2, h3, h4, h5, h6⟩
  refine ⟨by rw [e5.1, ← hBB]; rfl, ⟨?_, ?_⟩, ?_⟩
  · rintro ⟨h1, h2, h3⟩
    rw [e5.2.1] at h1
    rw [x] at h2
    simp only [decide_eq_false_iff_not] at h1 h2
    have hh : x1 = 0 ∧ x2 = 0 ∧ x5 = 0 ∧ x6 = 0 := by
      split at h2 <;> omega
    obtain ⟨q1, q2, q5, q6⟩ := hh
    have hc : cRu B false = rA B 0 := by
      rw [c, r, q1, q2, q5, q6]
      congr 1 <;> omega
    unfold okA
    rw [g, ← hc, h3]
    simp only [Bool.and_eq_true, decide_eq_true_eq]
    exact ⟨⟨⟨⟨⟨q1, q2⟩, q5⟩, q6⟩, by omega⟩, trivial⟩
  · intro hh
    obtain ⟨q1, q2, q5, q6, q10, hm⟩ := hk hh
    have hc : cRu B false = rA B 0 := by
      rw [c, r, q1, q2, q5, q6]
      congr 1 <;> omega
    refine ⟨by rw [e5.2.1]; simp only [decide_eq_false_iff_not]; omega, ?_, by rw [hc]; exact hm⟩
    rw [x]
    rw [r] at hm
    unfold mayU at hm
    simp only [Bool.and_eq_true, decide_eq_true_eq] at hm
    simp only [decide_eq_false_iff_not]
    obtain ⟨⟨⟨_, m1⟩, m2⟩, _⟩ := hm
    split <;> omega
  · intro hh
    obtain ⟨q1, q2, q5, q6, q10, hm⟩ := hk hh
    have hc : cRu B false = rA B 0 := by
      rw [c, r, q1, q2, q5, q6]
      congr 1 <;> omega
    refine ⟨hc, ?_⟩
    rw [r, ← hBB]
    unfold encU
    dsimp only
    rw [be4 a3 a4, be4 a7 a8]
    have : flagB (decide (x10 = 1)) = [x10] := by
      unfold flagB
      have : x10 = 0 ∨ x10 = 1 := by omega
      rcases this with rfl | rfl <;> rfl
    rw [this, q1, q2, q5, q6]
    rfl
theorem range_all {n : Nat} {f : Nat → Bool} : (List.range (n + 1)).all f = (f 0 && (List.range n).all fun j => f (j + 1)) := by
  rw [List.range_succ_eq_map, List.all_cons, List.all_map]
  rfl
theorem tlr_rest {n : Nat} : ∀ {B : List Int} {X : Bool}, Bytes B → (((tlr n B false X).2.2.1 = false ∧ (tlr n B false X).2.1 = [] ∧ (tlr n B false X).2.2.2 = false ∧ (tlr n B false X).1.all mayU = true) ↔ (B.length = 11 * n ∧ X = false ∧ (List.range n).all (fun j => okA B (11 * j)) = true)) ∧ ((B.length = 11 * n ∧ X = false ∧ (List.range n).all (fun j => okA B (11 * j)) = true) → (tlr n B false X).1 = (List.range n).map (fun j => rA B (11 * j)) ∧ B = rlB (tlr n B false X).1) := by
  induction n with
  | zero =>
    intro B X hB
    refine ⟨⟨fun h => ?_, fun h => ?_⟩, fun h => ?_⟩
    · obtain ⟨_, h2, h3, _⟩ := h
      have h2 : B = [] := h2
      have h3 : X = false := h3
      subst h2 h3
      exact ⟨rfl, rfl, rfl⟩
    · obtain ⟨h1, h2, _⟩ := h
      have h1 : B = [] := List.eq_nil_of_length_eq_zero (by omega)
      subst h1 h2
      exact ⟨rfl, rfl, rfl, rfl⟩
    · obtain ⟨h1, _⟩ := h
      have h1 : B = [] := List.eq_nil_of_length_eq_zero (by omega)
      subst h1
      exact ⟨rfl, rfl⟩
  | succ n ih =>
    intro B X hB
    obtain ⟨T, hT⟩ : ∃ T, tlr n (c5B B false) (c5W B false) (X || cX B false) = T := ⟨_, rfl⟩
    have hS : tlr (n + 1) B false X = (cRu B false :: T.1, T.2) := by rw [← hT]; rfl
    rw [hS]
    dsimp only
    cases hW : c5W B false with
    | true =>
      rw [hW, tlr_wr] at hT
      subst hT
      have hno : ¬ (B.length = 11 * (n + 1) ∧ X = false ∧ (List.range (n + 1)).all (fun j => okA B (11 * j)) = true) := by
        rintro ⟨h1, _, h3⟩
        rw [range_all] at h3
        simp only [Bool.and_eq_true, Nat.mul_zero] at h3
        have := ((chunk hB (by omega)).2.1.2 h3.1).1
        rw [hW] at this
        cases this
      exact ⟨⟨fun h => by simp at h, fun h => absurd h hno⟩, fun h => absurd h hno⟩
    | false =>
      rw [hW] at hT
      obtain ⟨_, hl⟩ := c5_len hW
      obtain ⟨hd, hiff, hmk⟩ := chunk hB (by omega)
      obtain ⟨i1, i2⟩ := ih (B := c5B B false) (X := X || cX B false) (by rw [hd]; exact hB.drop 11)
      rw [hT] at i1 i2
      have hall : (List.range (n + 1)).all (fun j => okA B (11 * j)) = (okA B 0 && (List.range n).all fun j => okA (c5B B false) (11 * j)) := by
        rw [range_all, Nat.mul_zero, hd]
        congr 2
        funext j
        rw [okA_drop]
        congr 1
        omega
      have hmap : (List.range (n + 1)).map (fun j => rA B (11 * j)) = rA B 0 :: (List.range n).map fun j => rA (c5B B false) (11 * j) := by
        rw [List.range_succ_eq_map, List.map_cons, List.map_map, hd]
        congr 1
        refine List.map_congr_left fun j _ => ?_
        rw [rA_drop]
        show rA B (11 * (j + 1)) = _
        congr 1
        omega
      rw [hall, hmap]
      have key : (B.length = 11 * (n + 1) ∧ X = false ∧ (okA B 0 && (List.range n).all fun j => okA (c5B B false) (11 * j)) = true) → okA B 0 = true ∧ ((c5B B false).length = 11 * n ∧ (X || cX B false) = false ∧ (List.range n).all (fun j => okA (c5B B false) (11 * j)) = true) := by
        rintro ⟨h1, h2, h3⟩
        simp only [Bool.and_eq_true] at h3
        obtain ⟨_, hx, _⟩ := hiff.2 h3.1
        exact ⟨h3.1, by omega, by rw [h2, hx]; rfl, h3.2⟩
      refine ⟨⟨?_, ?_⟩, ?_⟩
      · rintro ⟨h1, h2, h3, h4⟩
        rw [List.all_cons] at h4
        simp only [Bool.and_eq_true] at h4
        obtain ⟨j1, j2, j3⟩ := i1.1 ⟨h1, h2, h3, h4.2⟩
        simp only [Bool.or_eq_false_iff] at j2
        have ho := hiff.1 ⟨hW, j2.2, h4.1⟩
        exact ⟨by omega, j2.1, by rw [ho, j3]; rfl⟩
      · intro h
        obtain ⟨ho, hr⟩ := key h
        obtain ⟨j1, j2, j3, j4⟩ := i1.2 hr
        refine ⟨j1, j2, j3, ?_⟩
        rw [List.all_cons, (hiff.2 ho).2.2, j4]
        rfl
      · intro h
        obtain ⟨ho, hr⟩ := key h
        obtain ⟨j1, j2⟩ := i2 hr
        obtain ⟨m1, m2⟩ := hmk ho
        refine ⟨by rw [m1, j1], ?_⟩
        show B = (encU (cRu B false) ++ rlB T.1)
        rw [← j2, m1, ← m2, hd, List.take_append_drop]
/-- What bytes are loaded to, by the document. -/
def rHd (bs : List Int) : Bool := decide (3 ≤ bs.length) && telU (bs.getD 0 0) && decide (bs.getD 1 0 ≤ 0) && decide (bs.getD 2 0 ≤ 64) && decide ((bs.length : Int) = 3 + 11 * bs.getD 2 0)
def rOk (bs : List Int) : Bool := rHd bs && (List.range (bs.getD 2 0).toNat).all fun j => okA bs (3 + 11 * j)
def rLs (bs : List Int) : List Ru := (List.range (bs.getD 2 0).toNat).map fun j => rA bs (3 + 11 * j)
theorem three {B : List Int} (h : 3 ≤ B.length) : ∃ x0 x1 x2 R, B = x0 :: x1 :: x2 :: R := by
  rcases B with _ | ⟨x0, _ | ⟨x1, _ | ⟨x2, R⟩⟩⟩
  all_goals first | (exact ⟨_, _, _, _, rfl⟩) | (exfalso; simp at h)
theorem tuN_bad {B : List Int} {W : Bool} {X : Bool} (h : mnW B W 64 = true) : tuS B W X = ([], tkB 2 B W, true, X) := by
  unfold tuS
  rw [h, tlr_wr]
theorem ld_main {bs : List Int} (hB : Bytes bs) : ldO bs = rOk bs ∧ (rOk bs = true → ldF bs = bs.getD 0 0 ∧ ldL bs = rLs bs ∧ bs = [ldF bs] ++ be (ldL bs).length 2 ++ rlB (ldL bs)) := by
  by_cases h3 : 3 ≤ bs.length
  · obtain ⟨x0, x1, x2, R, rfl⟩ := three h3
    have a0 := hB x0 (by simp)
    have a1 := hB x1 (by simp)
    have a2 := hB x2 (by simp)
    have hR : Bytes R := fun x hx => hB x (by simp [hx])
    have t1 := tk1 (x := x0) (R := x1 :: x2 :: R)
    have t2 : tkB 2 (x1 :: x2 :: R) false = R ∧ tkW 2 (x1 :: x2 :: R) false = false ∧ val (tkR 2 (x1 :: x2 :: R) false) = x1 * 256 + x2 := by
      unfold tkB tkW tkR
      rw [show tkOk 2 (x1 :: x2 :: R) false = true by simp [tkOk]]
      refine ⟨rfl, rfl, ?_⟩
      simp [val]
    have hF : ldF (x0 :: x1 :: x2 :: R) = x0 := t1.2.2
    have hm : mnW (x1 :: x2 :: R) false 64 = decide (64 < x1 * 256 + x2) := by
      unfold mnW
      rw [t2.2.1, t2.2.2, Bool.false_or]
    have hS : ldS (x0 :: x1 :: x2 :: R) = tuS (x1 :: x2 :: R) false false := by
      unfold ldS
      rw [t1.1, t1.2.1]
    have hrl : ∀ b : Bool, rOk (x0 :: x1 :: x2 :: R) = b ↔ (telU x0 && decide (x1 ≤ 0) && decide (x2 ≤ 64) && decide ((R.length : Int) = 11 * x2) && (List.range x2.toNat).all fun j => okA R (11 * j)) = b := by
      intro b
      have e : rOk (x0 :: x1 :: x2 :: R) = (telU x0 && decide (x1 ≤ 0) && decide (x2 ≤ 64) && decide ((R.length : Int) = 11 * x2) && (List.range x2.toNat).all fun j => okA R (11 * j)) := by
        unfold rOk rHd
        have q1 : (fun j => okA (x0 :: x1 :: x2 :: R) (3 + 11 * j)) = fun j => okA R (11 * j) := funext fun j => (okA_drop (x0 :: x1 :: x2 :: R) 3 (11 * j)).symm
        have q2 : decide (((x0 :: x1 :: x2 :: R).length : Int) = 3 + 11 * x2) = decide ((R.length : Int) = 11 * x2) := decide_eq_decide.2 (by simp only [List.length_cons]; omega)
        have q3 : decide (3 ≤ (x0 :: x1 :: x2 :: R).length) = true := decide_eq_true h3
        show (decide (3 ≤ (x0 :: x1 :: x2 :: R).length) && telU x0 && decide (x1 ≤ 0) && decide (x2 ≤ 64) && decide (((x0 :: x1 :: x2 :: R).length : Int) = 3 + 11 * x2) && (List.range x2.toNat).all fun j => okA (x0 :: x1 :: x2 :: R) (3 + 11 * j)) = _
        rw [q1, q2, q3, Bool.true_and]
      rw [e]
    by_cases hw : 64 < x1 * 256 + x2
    · have hbad : ldO (x0 :: x1 :: x2 :: R) = false := by
        unfold ldO
        rw [hS, tuN_bad (by rw [hm]; exact decide_eq_true hw)]
        simp [endE]
      have hr : rOk (x0 :: x1 :: x2 :: R) = false := by
        rw [hrl]
        by_cases h1 : x1 ≤ 0
        · have : ¬ x2 ≤ 64 := by omega
          rw [decide_eq_false this]; simp
        · rw [decide_eq_false h1]; simp
      exact ⟨by rw [hbad, hr], fun h => by rw [hr] at h; cases h⟩
    · have h1 : x1 = 0 := by omega
      subst h1
      have hmw : mnW (0 :: x2 :: R) false 64 = false := by rw [hm]; exact decide_eq_false hw
      have hn : tuN (0 :: x2 :: R) false = x2.toNat := by
        unfold tuN
        rw [hmw, if_neg (by decide), t2.2.2]
        congr 1
        omega
      have hT : tuS (0 :: x2 :: R) false false = tlr x2.toNat R false false := by
        unfold tuS
        rw [hn, hmw, t2.1]
      obtain ⟨i1, i2⟩ := tlr_rest (n := x2.toNat) (X := false) hR
      have hL : ldL (x0 :: 0 :: x2 :: R) = if (tlr x2.toNat R false false).2.2.1 then [] else (tlr x2.toNat R false false).1 := by
        unfold ldL
        rw [t1.1, t1.2.1]
        unfold tuL
        rw [hT]
      obtain ⟨T, hTT⟩ : ∃ T, tlr x2.toNat R false false = T := ⟨_, rfl⟩
      have hiff : ldO (x0 :: 0 :: x2 :: R) = true ↔ rOk (x0 :: 0 :: x2 :: R) = true := by
        rw [hrl]
        unfold ldO
        rw [hL, hS, hT, hF]
        rw [hTT] at i1 i2 ⊢
        simp only [Bool.and_eq_true, decide_eq_true_eq, Bool.not_eq_true']
        constructor
        · rintro ⟨⟨⟨g1, g2⟩, g3⟩, g4⟩
          have hw1 : T.2.2.1 = false := by
            cases hh : T.2.2.1 with
            | false => rfl
            | true => rw [hh] at g2; simp [endE] at g2
          have hb1 : T.2.1 = [] := by
            rw [hw1] at g2
            unfold endE at g2
            by_cases hh : 0 < T.2.1.length
            · rw [decide_eq_true hh] at g2; simp at g2
            · exact List.eq_nil_of_length_eq_zero (by omega)
          rw [hw1, if_neg (by decide)] at g4
          obtain ⟨k1, _, k3⟩ := i1.1 ⟨hw1, hb1, g3, g4⟩
          exact ⟨⟨⟨⟨g1, by omega⟩, by omega⟩, by omega⟩, k3⟩
        · rintro ⟨⟨⟨⟨g1, _⟩, g2⟩, g3⟩, g4⟩
          obtain ⟨k1, k2, k3, k4⟩ := i1.2 ⟨by omega, rfl, g4⟩
          rw [k1, k2, if_neg (by decide)]
          exact ⟨⟨⟨g1, by decide⟩, k3⟩, k4⟩
      refine ⟨Bool.eq_iff_iff.2 hiff, fun h => ?_⟩
      rw [hrl] at h
      simp only [Bool.and_eq_true, decide_eq_true_eq] at h
      obtain ⟨⟨⟨⟨g1, _⟩, g2⟩, g3⟩, g4⟩ := h
      have hpre : R.length = 11 * x2.toNat ∧ (false : Bool) = false ∧ (List.range x2.toNat).all (fun j => okA R (11 * j)) = true := ⟨by omega, rfl, g4⟩
      obtain ⟨k1, _⟩ := i1.2 hpre
      obtain ⟨m1, m2⟩ := i2 hpre
      rw [k1, if_neg (by decide)] at hL
      rw [hF, hL]
      have hls : (tlr x2.toNat R false false).1.length = x2.toNat := by rw [m1]; simp
      refine ⟨rfl, ?_, ?_⟩
      · rw [m1]
        unfold rLs
        show _ = (List.range x2.toNat).map fun j => rA (x0 :: 0 :: x2 :: R) (3 + 11 * j)
        refine List.map_congr_left fun j _ => ?_
        exact rA_drop (x0 :: 0 :: x2 :: R) 3 (11 * j)
      · rw [← m2, hls]
        have : be ((x2.toNat : Nat) : Int) 2 = [0, x2] := by
          rw [Int.toNat_of_nonneg a2.1]
          unfold be beK
          simp [List.range_succ]
          omega
        rw [this]
        rfl
  · have hr : rOk bs = false := by
      unfold rOk rHd
      rw [decide_eq_false h3]
      simp
    have hbad : ldO bs = false := by
      have : mnW (tkB 1 bs false) (tkW 1 bs false) 64 = true := by
        unfold mnW
        cases hh : tkW 2 (tkB 1 bs false) (tkW 1 bs false) with
        | true => rfl
        | false =>
          obtain ⟨q1, q2⟩ := tk_len hh
          obtain ⟨_, q3⟩ := tk_len q1
          omega
      unfold ldO
      have hS : ldS bs = ([], tkB 2 (tkB 1 bs false) (tkW 1 bs false), true, false) := by
        unfold ldS
        exact tuN_bad this
      rw [hS]
      simp [endE]
    exact ⟨by rw [hbad, hr], fun h => by rw [hr] at h; cases h⟩
end Go.Proofs.Ytnlibngncicobaa
