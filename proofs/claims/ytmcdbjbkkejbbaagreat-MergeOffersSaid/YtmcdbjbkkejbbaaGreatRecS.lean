/- Records there and back: plain laws. -/
import Derived.Test.YtmcdbjbkkejbbaaGreatRecR
namespace Go.Proofs.YtmcdbjbkkejbbaaGreat
open Go Go.RowKit

theorem be_succ (n : Int) (k : Nat) : be n (k + 1) = be (n / 256) k ++ [n % 256] := by
  unfold be
  rw [beK_succ]
  congr 1
  · unfold beK
    apply List.map_congr_left
    intro j hj
    have hj := List.mem_range.1 hj
    have h := div256 n (k - 1 - j)
    rw [show (256 : Int) = 2 ^ 8 from rfl, Int.ediv_ediv_of_nonneg (by decide), ← Int.pow_add, show 8 + 8 * (k - 1 - j) = 8 * (k + 1 - 1 - j) by omega]
  · simp

theorem val_be : ∀ (k : Nat) (n : Int), 0 ≤ n → n < 256 ^ k → val (be n k) = n
  | 0, n, h0, h1 => by
    simp at h1
    have : n = 0 := by omega
    subst this
    rfl
  | k + 1, n, h0, h1 => by
    rw [be_succ, val_snoc, val_be k (n / 256) (by omega) (by
      rw [Int.pow_succ] at h1
      exact Int.ediv_lt_of_lt_mul (by decide) h1)]
    omega

theorem be_val {xs : List Int} (h : Bytes xs) : be (val xs) xs.length = xs := by
  induction xs using snoc_ind with
  | h0 => rfl
  | hs xs x ih =>
    have h1 : Bytes xs := fun y hy => h y (by simp [hy])
    have h2 := h x (by simp)
    rw [List.length_append, List.length_singleton, be_succ, val_snoc]
    rw [show (val xs * 256 + x) / 256 = val xs by omega, show (val xs * 256 + x) % 256 = x by omega, ih h1]

theorem val_be8 {n : Int} (h : U64 n) : val (be n 8) = n := val_be 8 n h.1 (by have := h.2; rw [show (256 : Int) ^ 8 = 18446744073709551616 from rfl]; exact this)
theorem be_val8 {xs : List Int} (h : Bytes xs) (hl : xs.length = 8) : be (val xs) 8 = xs := by rw [← hl]; exact be_val h

theorem recB_eq (r : Rc) : recB r = r.id ++ (r.peer :: (if r.out then 1 else 0) :: r.oc :: (be r.bg 8 ++ (be r.an 8 ++ be r.en 8))) := by
  simp [recB, flagB]

theorem recOf_recB {r : Rc} (h : r.ok) : recOf (recB r) = r := by
  obtain ⟨id, p, o, c, b, a, e⟩ := r
  have hid : id.length = 16 := h.len
  have hb := val_be8 h.bg
  have ha := val_be8 h.an
  have he := val_be8 h.en
  dsimp only at hb ha he
  have eq := recB_eq ⟨id, p, o, c, b, a, e⟩
  dsimp only at eq
  have d19 : (recB ⟨id, p, o, c, b, a, e⟩).drop 19 = be b 8 ++ (be a 8 ++ be e 8) := by
    rw [eq, show 19 = id.length + 3 by omega, List.drop_append]
    simp
  have d27 : (recB ⟨id, p, o, c, b, a, e⟩).drop 27 = be a 8 ++ be e 8 := by
    rw [show 27 = 19 + 8 by omega, ← List.drop_drop, d19, List.drop_left' (be_len _ _)]
  have d35 : (recB ⟨id, p, o, c, b, a, e⟩).drop 35 = be e 8 := by
    rw [show 35 = 27 + 8 by omega, ← List.drop_drop, d27, List.drop_left' (be_len _ _)]
  have g (k : Nat) : (recB ⟨id, p, o, c, b, a, e⟩).getD (16 + k) 0 = (p :: (if o then 1 else 0) :: c :: (be b 8 ++ (be a 8 ++ be e 8))).getD k 0 := by
    rw [eq, List.getD_eq_getElem?_getD, List.getElem?_append_right (by omega), hid, Nat.add_sub_cancel_left, ← List.getD_eq_getElem?_getD]
  have g0 := g 0
  have g1 := g 1
  have g2 := g 2
  simp at g0 g1 g2
  unfold recOf
  rw [d19, d27, d35, List.take_left' (be_len _ _), List.take_left' (be_len _ _), List.take_of_length_le (l := be e 8) (by rw [be_len]; omega), hb, ha, he]
  congr 1
  all_goals first | (rw [eq, List.take_left' hid]; done) | (simpa using g0; done) | (simpa using g2; done) | (cases o <;> simp [g1])

theorem recB17 {r : Rc} (h : r.id.length = 16) : (recB r).getD 17 0 = if r.out then 1 else 0 := by
  rw [recB_eq, List.getD_eq_getElem?_getD, List.getElem?_append_right (by omega), h]
  simp

theorem goodB_recB {r : Rc} (h : r.ok) : goodB (recB r) = mayB r := by
  unfold goodB
  rw [recOf_recB h, recB_len h.len, recB17 h.len]
  cases r.out <;> simp

theorem recB_bytes {r : Rc} (h : r.ok) : Bytes (recB r) := by
  intro x hx
  rw [recB_eq] at hx
  rcases List.mem_append.1 hx with hx | hx
  · exact h.id x hx
  · simp only [List.mem_cons, List.mem_append] at hx
    rcases hx with rfl | rfl | rfl | hx | hx | hx
    · exact h.peer
    · cases r.out <;> simp
    · exact h.oc
    · exact Bytes.be _ _ x hx
    · exact Bytes.be _ _ x hx
    · exact Bytes.be _ _ x hx

theorem take_add (bs : List Int) (i j : Nat) : bs.take (i + j) = bs.take i ++ (bs.drop i).take j := by rw [List.take_add]

theorem recB_recOf {bs : List Int} (hB : Bytes bs) (h : goodB bs = true) : recB (recOf bs) = bs := by
  simp [goodB] at h
  obtain ⟨⟨hl, h17⟩, _⟩ := h
  have b17 := hB.getD (i := 17) (by omega)
  have hf : (if decide (bs.getD 17 0 = 1) = true then (1 : Int) else 0) = bs.getD 17 0 := by
    have h17' : bs.getD 17 0 ≤ 1 := by simpa using h17
    by_cases e : bs.getD 17 0 = 1
    · rw [e]; simp
    · rw [if_neg (by simpa using e)]; omega
  rw [recB_eq]
  unfold recOf
  dsimp only
  rw [hf, be_val8 ((hB.drop 19).take 8) (by simp; omega), be_val8 ((hB.drop 27).take 8) (by simp; omega), be_val8 ((hB.drop 35).take 8) (by simp; omega)]
  have e0 : bs.take 19 = bs.take 16 ++ [bs.getD 16 0, bs.getD 17 0, bs.getD 18 0] := by
    rw [take_getD (i := 18) (by omega), take_getD (i := 17) (by omega), take_getD (i := 16) (by omega)]
    simp
  have e1 : bs = bs.take 19 ++ ((bs.drop 19).take 8 ++ ((bs.drop 27).take 8 ++ (bs.drop 35).take 8)) := by
    have a1 : (bs.drop 35).take 8 = bs.drop 35 := List.take_of_length_le (by simp; omega)
    have a2 : (bs.drop 27).take 8 ++ bs.drop 35 = bs.drop 27 := by
      have := List.take_append_drop 8 (bs.drop 27)
      rwa [List.drop_drop] at this
    have a3 : (bs.drop 19).take 8 ++ bs.drop 27 = bs.drop 19 := by
      have := List.take_append_drop 8 (bs.drop 19)
      rwa [List.drop_drop] at this
    rw [a1, a2, a3, List.take_append_drop]
  conv => rhs; rw [e1, e0]
  simp

theorem recN_is {bs : List Int} {m : Nat} (h : ∀ i, i < m → 43 * i + 43 ≤ bs.length ∧ goodB (chunk bs i) = true) (he : ¬ 43 * m + 43 ≤ bs.length ∨ goodB (chunk bs m) = false) : recN bs = m := by
  have key : ∀ j, j ≤ m → j ≤ recN bs := by
    intro j
    induction j with
    | zero => intro _; omega
    | succ j ih =>
      intro hj
      exact recN_more (ih (by omega)) (h j (by omega)).1 (h j (by omega)).2
  rcases he with he | he
  · exact recN_end (key m (Nat.le_refl _)) he
  · exact recN_bad (key m (Nat.le_refl _)) he

def allB (rs : List Rc) : List Int := (rs.map recB).flatten
theorem allB_len {rs : List Rc} (h : ∀ r ∈ rs, r.ok) : (allB rs).length = 43 * rs.length := by
  induction rs with
  | nil => rfl
  | cons r rs ih =>
    have := ih (fun x hx => h x (by simp [hx]))
    simp only [allB, List.map_cons, List.flatten_cons, List.length_append, List.length_cons] at this ⊢
    rw [this, recB_len (h r (by simp)).len]
    omega
theorem allB_bytes {rs : List Rc} (h : ∀ r ∈ rs, r.ok) : Bytes (allB rs) := by
  intro x hx
  obtain ⟨l, hl, hx⟩ := List.mem_flatten.1 hx
  obtain ⟨r, hr, rfl⟩ := List.mem_map.1 hl
  exact recB_bytes (h r hr) x hx
theorem allB_snoc (rs : List Rc) (r : Rc) : allB (rs ++ [r]) = allB rs ++ recB r := by simp [allB]
theorem allB_chunk {rs : List Rc} (h : ∀ r ∈ rs, r.ok) (tl : List Int) {i : Nat} (hi : i < rs.length) : chunk (allB rs ++ tl) i = recB rs[i] := by
  induction rs generalizing i with
  | nil => simp at hi
  | cons r rs ih =>
    have hl := recB_len (h r (by simp)).len
    have e : allB (r :: rs) ++ tl = recB r ++ (allB rs ++ tl) := by simp [allB]
    rw [e]
    unfold chunk
    cases i with
    | zero => simp [List.take_left' hl]
    | succ i =>
      have := ih (fun x hx => h x (by simp [hx])) (i := i) (by simpa using hi)
      unfold chunk at this
      rw [show 43 * (i + 1) = 43 + 43 * i by omega, ← List.drop_drop, List.drop_left' hl, this]
      simp
theorem allB_recN {rs : List Rc} (h : ∀ r ∈ rs, r.ok ∧ mayB r = true) {tl : List Int} (ht : tl.length < 43) : recN (allB rs ++ tl) = rs.length := by
  have hl := allB_len (fun r hr => (h r hr).1)
  refine recN_is (fun i hi => ⟨by rw [List.length_append, hl]; omega, ?_⟩) (.inl (by rw [List.length_append, hl]; omega))
  rw [allB_chunk (fun r hr => (h r hr).1) tl hi, goodB_recB (h _ (List.getElem_mem hi)).1]
  exact (h _ (List.getElem_mem hi)).2
theorem allB_at {rs : List Rc} (h : ∀ r ∈ rs, r.ok) (tl : List Int) {i : Nat} (hi : i < rs.length) : recAt (allB rs ++ tl) i = rs[i] := by
  unfold recAt
  rw [allB_chunk h tl hi, recOf_recB (h _ (List.getElem_mem hi))]
end Go.Proofs.YtmcdbjbkkejbbaaGreat
