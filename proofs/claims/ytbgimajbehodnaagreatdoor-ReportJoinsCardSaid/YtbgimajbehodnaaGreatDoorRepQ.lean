/- Records al cells; their sums: plain laws. -/
import Derived.Test.YtbgimajbehodnaaGreatDoorLibN
namespace Go.Proofs.YtbgimajbehodnaaGreatDoor
open Go Go.RowKit
/-- A record. -/
structure Rc where
  id : List Int
  peer : Int
  out : Bool
  oc : Int
  bg : Int
  an : Int
  en : Int
def Rc.cells (r : Rc) : List Value := ints .u8 r.id ++ [.int .u8 r.peer, .bool r.out, .int .u8 r.oc, .int .u64 r.bg, .int .u64 r.an, .int .u64 r.en]
def rcV (r : Rc) : Value := .agg r.cells.toArray
def U8 (n : Int) : Prop := 0 ≤ n ∧ n < 256
def U64 (n : Int) : Prop := 0 ≤ n ∧ n < 18446744073709551616
instance (n : Int) : Decidable (U64 n) := by unfold U64; infer_instance
structure Rc.ok (r : Rc) : Prop where
  len : r.id.length = 16
  id : ∀ x ∈ r.id, 0 ≤ x ∧ x < 256
  peer : U8 r.peer
  oc : U8 r.oc
  bg : U64 r.bg
  an : U64 r.an
  en : U64 r.en
theorem Rc.cells_len {r : Rc} (h : r.id.length = 16) : r.cells.length = 22 := by simp [Rc.cells, ints_length, h]
theorem Rc.get {r : Rc} (h : r.id.length = 16) (j : Nat) : r.cells[16 + j]? = [Value.int .u8 r.peer, .bool r.out, .int .u8 r.oc, .int .u64 r.bg, .int .u64 r.an, .int .u64 r.en][j]? := by
  unfold Rc.cells
  rw [List.getElem?_append_right (by rw [ints_length]; omega), ints_length, h, Nat.add_sub_cancel_left]
theorem Rc.c16 {r : Rc} (h : r.id.length = 16) : r.cells[0 + 16]? = some (.int .u8 r.peer) := Rc.get h 0
theorem Rc.c17 {r : Rc} (h : r.id.length = 16) : r.cells[0 + 17]? = some (.bool r.out) := Rc.get h 1
theorem Rc.c18 {r : Rc} (h : r.id.length = 16) : r.cells[0 + 18]? = some (.int .u8 r.oc) := Rc.get h 2
theorem Rc.c19 {r : Rc} (h : r.id.length = 16) : r.cells[0 + 19]? = some (.int .u64 r.bg) := Rc.get h 3
theorem Rc.c20 {r : Rc} (h : r.id.length = 16) : r.cells[0 + 20]? = some (.int .u64 r.an) := Rc.get h 4
theorem Rc.c21 {r : Rc} (h : r.id.length = 16) : r.cells[0 + 21]? = some (.int .u64 r.en) := Rc.get h 5
theorem Rc.call {r : Rc} (h : r.id.length = 16) : (r.cells.drop 0).take 22 = r.cells := by
  rw [List.drop_zero, List.take_of_length_le (by rw [Rc.cells_len h]; omega)]
theorem Rc.ones (r : Rc) : ∀ v ∈ r.cells, v.oneCell' = true := by
  intro v hv
  rcases List.mem_append.1 hv with h | h
  · exact ints_one _ _ v h
  · simp at h
    rcases h with rfl | rfl | rfl | rfl | rfl | rfl <;> rfl
def Rc.zero : Rc := ⟨List.replicate 16 0, 0, false, 0, 0, 0, 0⟩

/-! ### Sums -/
structure Sm where
  n : Int
  o : Int
  t : Int
  oc : List Int
  tk : Int
  lg : Int
  fi : Int
  la : Int
def Sm.cells (s : Sm) : List Value := .int .u64 s.n :: .int .u64 s.o :: .int .u64 s.t :: (ints .u64 s.oc ++ [.int .u64 s.tk, .int .u64 s.lg, .int .u64 s.fi, .int .u64 s.la])
def smV (s : Sm) : Value := .agg s.cells.toArray
def Sm.zero : Sm := ⟨0, 0, 0, List.replicate 8 0, 0, 0, 0, 0⟩
/-- As sums are: in range; what is none has no ticks. -/
structure Sm.ok (s : Sm) : Prop where
  n : U64 s.n
  o : U64 s.o
  t : U64 s.t
  ol : s.oc.length = 8
  oc : ∀ x ∈ s.oc, U64 x
  tk : U64 s.tk
  lg : U64 s.lg
  fi : U64 s.fi
  la : U64 s.la
  no : s.n = 0 → s.fi = 0 ∧ s.la = 0
theorem Sm.zero_ok : Sm.zero.ok := ⟨by decide, by decide, by decide, rfl, fun x hx => by rw [List.eq_of_mem_replicate hx]; decide, by decide, by decide, by decide, by decide, fun _ => ⟨rfl, rfl⟩⟩
theorem Sm.cells_len {s : Sm} (h : s.oc.length = 8) : s.cells.length = 15 := by simp [Sm.cells, ints_length, h]
theorem Sm.ones (s : Sm) : ∀ v ∈ s.cells, v.oneCell' = true := by
  intro v hv
  simp only [Sm.cells, List.mem_cons, List.mem_append, List.not_mem_nil, or_false] at hv
  rcases hv with rfl | rfl | rfl | h | rfl | rfl | rfl | rfl
  · rfl
  · rfl
  · rfl
  · exact ints_one _ _ _ h
  all_goals rfl
/-- 2^64 - 1 at most. -/
def satF (a b : Int) : Int := if a + b < 18446744073709551616 then a + b else 18446744073709551615
theorem satF_comm (a b : Int) : satF a b = satF b a := by unfold satF; rw [Int.add_comm]
theorem satF_assoc {a b c : Int} (ha : U64 a) (hb : U64 b) (hc : U64 c) : satF a (satF b c) = satF (satF a b) c := by
  unfold satF U64 at *
  repeat' split
  all_goals omega
theorem satF_zero {a : Int} (ha : U64 a) : satF a 0 = a := by unfold satF U64 at *; rw [if_pos (by omega)]; omega
theorem satF_ok {a b : Int} (ha : U64 a) (hb : U64 b) : U64 (satF a b) := by unfold satF U64 at *; split <;> omega
theorem satF_eq0 {a b : Int} (ha : U64 a) (hb : U64 b) : satF a b = 0 ↔ a = 0 ∧ b = 0 := by unfold satF U64 at *; split <;> omega
def tookF (r : Rc) : Int := max r.en r.an - r.an
def ocF (r : Rc) : Nat := if 8 ≤ r.oc then 0 else r.oc.toNat
/-- The sum of a record. -/
def oneS (r : Rc) : Sm := ⟨1, if r.out then 1 else 0, if r.an = 0 then 0 else 1, (List.replicate 8 0).set (ocF r) 1, if r.an = 0 then 0 else tookF r, if r.an = 0 then 0 else tookF r, r.bg, r.en⟩
theorem oneS_ok {r : Rc} (h : r.ok) : (oneS r).ok := by
  have ha := h.an
  have he := h.en
  refine ⟨(by decide : U64 1), ?_, ?_, by simp [oneS], ?_, ?_, ?_, h.bg, h.en, fun e => by cases e⟩
  · unfold oneS; dsimp only; split <;> decide
  · unfold oneS; dsimp only; split <;> decide
  · intro x hx
    rcases List.mem_or_eq_of_mem_set hx with h1 | rfl
    · rw [List.eq_of_mem_replicate h1]; decide
    · decide
  · unfold oneS tookF U64 at *; dsimp only; split <;> omega
  · unfold oneS tookF U64 at *; dsimp only; split <;> omega
def joinS (a b : Sm) : Sm :=
  ⟨satF a.n b.n, satF a.o b.o, satF a.t b.t, List.zipWith satF a.oc b.oc, satF a.tk b.tk, max a.lg b.lg,
    if a.n = 0 then b.fi else if 0 < b.n then min a.fi b.fi else a.fi,
    if a.n = 0 then b.la else if 0 < b.n then max a.la b.la else a.la⟩
theorem Sm.ext' {a b : Sm} (h1 : a.n = b.n) (h2 : a.o = b.o) (h3 : a.t = b.t) (h4 : a.oc = b.oc) (h5 : a.tk = b.tk) (h6 : a.lg = b.lg) (h7 : a.fi = b.fi) (h8 : a.la = b.la) : a = b := by
  cases a; cases b; simp_all
theorem zip_mem {a b : List Int} (ha : ∀ x ∈ a, U64 x) (hb : ∀ x ∈ b, U64 x) : ∀ x ∈ List.zipWith satF a b, U64 x := by
  induction a generalizing b with
  | nil => intro x hx; simp at hx
  | cons a al ih =>
    cases b with
    | nil => intro x hx; simp at hx
    | cons b bs =>
      intro x hx
      rw [List.zipWith_cons_cons] at hx
      rcases List.mem_cons.1 hx with rfl | hx
      · exact satF_ok (ha _ (by simp)) (hb _ (by simp))
      · exact ih (fun y hy => ha y (List.mem_cons_of_mem _ hy)) (fun y hy => hb y (List.mem_cons_of_mem _ hy)) x hx
theorem joinS_ok {a b : Sm} (ha : a.ok) (hb : b.ok) : (joinS a b).ok := by
  have h1 := ha.n; have h2 := hb.n; have h3 := ha.fi; have h4 := hb.fi; have h5 := ha.la; have h6 := hb.la; have h7 := ha.lg; have h8 := hb.lg
  refine ⟨satF_ok ha.n hb.n, satF_ok ha.o hb.o, satF_ok ha.t hb.t, by simp [joinS, ha.ol, hb.ol], zip_mem ha.oc hb.oc, satF_ok ha.tk hb.tk, ?_, ?_, ?_, ?_⟩
  · show U64 (max a.lg b.lg); unfold U64 at *; omega
  · unfold joinS U64 at *; dsimp only; repeat' split
    all_goals omega
  · unfold joinS U64 at *; dsimp only; repeat' split
    all_goals omega
  · intro e
    obtain ⟨e1, e2⟩ := (satF_eq0 ha.n hb.n).1 e
    have := hb.no e2
    unfold joinS
    dsimp only
    rw [if_pos e1, if_pos e1]
    exact this
theorem zip_comm (a b : List Int) : List.zipWith satF a b = List.zipWith satF b a := by
  induction a generalizing b with
  | nil => simp
  | cons a al ih =>
    cases b with
    | nil => simp
    | cons b bs => rw [List.zipWith_cons_cons, List.zipWith_cons_cons, ih, satF_comm]
theorem zip_assoc {a b c : List Int} (ha : ∀ x ∈ a, U64 x) (hb : ∀ x ∈ b, U64 x) (hc : ∀ x ∈ c, U64 x) : List.zipWith satF a (List.zipWith satF b c) = List.zipWith satF (List.zipWith satF a b) c := by
  induction a generalizing b c with
  | nil => simp
  | cons a al ih =>
    cases b with
    | nil => simp
    | cons b bs =>
      cases c with
      | nil => simp
      | cons c cs =>
        simp only [List.zipWith_cons_cons]
        rw [ih (fun y hy => ha y (List.mem_cons_of_mem _ hy)) (fun y hy => hb y (List.mem_cons_of_mem _ hy)) (fun y hy => hc y (List.mem_cons_of_mem _ hy)), satF_assoc (ha _ (by simp)) (hb _ (by simp)) (hc _ (by simp))]
theorem zip_zero : ∀ {a : List Int} {n : Nat}, (∀ x ∈ a, U64 x) → a.length = n → List.zipWith satF a (List.replicate n 0) = a
  | [], _, _, h => by subst h; rfl
  | a :: al, n, ha, h => by
    subst h
    rw [List.length_cons, List.replicate_succ, List.zipWith_cons_cons, satF_zero (ha _ (by simp)), zip_zero (fun y hy => ha y (List.mem_cons_of_mem _ hy)) rfl]
theorem joinS_comm {a b : Sm} (ha : a.ok) (hb : b.ok) : joinS a b = joinS b a := by
  have h1 := ha.n; have h2 := hb.n; have n1 := ha.no; have n2 := hb.no
  unfold U64 at h1 h2
  refine Sm.ext' (satF_comm _ _) (satF_comm _ _) (satF_comm _ _) (zip_comm _ _) (satF_comm _ _) (Int.max_comm _ _) ?_ ?_
  · unfold joinS; dsimp only; repeat' split
    all_goals (try have := n1 (by omega)); (try have := n2 (by omega)); omega
  · unfold joinS; dsimp only; repeat' split
    all_goals (try have := n1 (by omega)); (try have := n2 (by omega)); omega
theorem joinS_assoc {a b c : Sm} (ha : a.ok) (hb : b.ok) (hc : c.ok) : joinS a (joinS b c) = joinS (joinS a b) c := by
  have h1 := ha.n; have h2 := hb.n; have h3 := hc.n
  have e1 := satF_eq0 ha.n hb.n
  have e2 := satF_eq0 hb.n hc.n
  have p1 := satF_ok ha.n hb.n
  have p2 := satF_ok hb.n hc.n
  refine Sm.ext' (satF_assoc ha.n hb.n hc.n) (satF_assoc ha.o hb.o hc.o) (satF_assoc ha.t hb.t hc.t) (zip_assoc ha.oc hb.oc hc.oc) (satF_assoc ha.tk hb.tk hc.tk) (Int.max_assoc _ _ _).symm ?_ ?_
  · show (if a.n = 0 then (joinS b c).fi else if 0 < satF b.n c.n then min a.fi (joinS b c).fi else a.fi) = (if satF a.n b.n = 0 then c.fi else if 0 < c.n then min (joinS a b).fi c.fi else (joinS a b).fi)
    unfold joinS U64 at *
    dsimp only
    generalize satF a.n b.n = u at *
    generalize satF b.n c.n = v at *
    repeat' split
    all_goals omega
  · show (if a.n = 0 then (joinS b c).la else if 0 < satF b.n c.n then max a.la (joinS b c).la else a.la) = (if satF a.n b.n = 0 then c.la else if 0 < c.n then max (joinS a b).la c.la else (joinS a b).la)
    unfold joinS U64 at *
    dsimp only
    generalize satF a.n b.n = u at *
    generalize satF b.n c.n = v at *
    repeat' split
    all_goals omega
theorem joinS_zero {a : Sm} (ha : a.ok) : joinS a Sm.zero = a := by
  have h1 := ha.n; have h2 := ha.lg; have n1 := ha.no
  refine Sm.ext' (satF_zero ha.n) (satF_zero ha.o) (satF_zero ha.t) (zip_zero ha.oc ha.ol) (satF_zero ha.tk) ?_ ?_ ?_
  · show max a.lg 0 = a.lg
    unfold U64 at h2; omega
  · show (if a.n = 0 then (0 : Int) else if (0 : Int) < 0 then min a.fi 0 else a.fi) = a.fi
    split
    · rename_i e; exact (n1 e).1.symm
    · rfl
  · show (if a.n = 0 then (0 : Int) else if (0 : Int) < 0 then max a.la 0 else a.la) = a.la
    split
    · rename_i e; exact (n1 e).2.symm
    · rfl
theorem zero_joinS {a : Sm} (ha : a.ok) : joinS Sm.zero a = a := by rw [joinS_comm Sm.zero_ok ha, joinS_zero ha]
/-- The sum of records. -/
def sumS (l : List Rc) : Sm := l.foldl (fun s r => joinS s (oneS r)) Sm.zero
theorem sumS_snoc (l : List Rc) (r : Rc) : sumS (l ++ [r]) = joinS (sumS l) (oneS r) := by simp [sumS]
theorem sumS_ok : ∀ {l : List Rc}, (∀ r ∈ l, r.ok) → (sumS l).ok := by
  intro l
  have key : ∀ (l : List Rc) (s : Sm), s.ok → (∀ r ∈ l, r.ok) → (l.foldl (fun s r => joinS s (oneS r)) s).ok := by
    intro l
    induction l with
    | nil => exact fun s hs _ => hs
    | cons r l ih => exact fun s hs h => ih _ (joinS_ok hs (oneS_ok (h r (by simp)))) (fun q hq => h q (List.mem_cons_of_mem _ hq))
  exact fun h => key l _ Sm.zero_ok h
theorem sumS_from : ∀ {l : List Rc} {s : Sm}, s.ok → (∀ r ∈ l, r.ok) → l.foldl (fun s r => joinS s (oneS r)) s = joinS s (sumS l)
  | [], s, hs, _ => (joinS_zero hs).symm
  | r :: l, s, hs, h => by
    have hr := oneS_ok (h r (by simp))
    have hl : ∀ q ∈ l, q.ok := fun q hq => h q (List.mem_cons_of_mem _ hq)
    have e : sumS (r :: l) = joinS (oneS r) (sumS l) := by
      show l.foldl (fun s r => joinS s (oneS r)) (joinS Sm.zero (oneS r)) = _
      rw [zero_joinS hr, sumS_from hr hl]
    rw [List.foldl_cons, sumS_from (joinS_ok hs hr) hl, e, joinS_assoc hs hr (sumS_ok hl)]
theorem sumS_append {a b : List Rc} (ha : ∀ r ∈ a, r.ok) (hb : ∀ r ∈ b, r.ok) : sumS (a ++ b) = joinS (sumS a) (sumS b) := by
  show (a ++ b).foldl _ _ = _
  rw [List.foldl_append]
  exact sumS_from (sumS_ok ha) hb
theorem sumS_cons {r : Rc} {l : List Rc} (hr : r.ok) (hl : ∀ q ∈ l, q.ok) : sumS (r :: l) = joinS (oneS r) (sumS l) := by
  have := sumS_append (a := [r]) (b := l) (fun q hq => by rw [List.mem_singleton] at hq; subst hq; exact hr) hl
  rw [show sumS [r] = oneS r from zero_joinS (oneS_ok hr)] at this
  exact this
theorem sumS_perm {a b : List Rc} (h : a.Perm b) (ha : ∀ r ∈ a, r.ok) : sumS a = sumS b := by
  induction h with
  | nil => rfl
  | cons x h ih =>
    have hx := ha x (by simp)
    rw [sumS_cons hx (fun q hq => ha q (List.mem_cons_of_mem _ hq)), sumS_cons hx (fun q hq => ha q (List.mem_cons_of_mem _ (h.mem_iff.2 hq))), ih (fun q hq => ha q (List.mem_cons_of_mem _ hq))]
  | swap x y l =>
    have hx := ha x (by simp)
    have hy := ha y (by simp)
    have hl : ∀ q ∈ l, q.ok := fun q hq => ha q (by simp [hq])
    rw [sumS_cons hy (fun q hq => ha q (List.mem_cons_of_mem _ hq)), sumS_cons hx hl, sumS_cons hx (fun q hq => by rcases List.mem_cons.1 hq with rfl | hq; exact hy; exact hl q hq), sumS_cons hy hl,
      joinS_assoc (oneS_ok hy) (oneS_ok hx) (sumS_ok hl), joinS_assoc (oneS_ok hx) (oneS_ok hy) (sumS_ok hl), joinS_comm (oneS_ok hy) (oneS_ok hx)]
  | trans h1 _ i1 i2 => rw [i1 ha, i2 (fun r hr => ha r (h1.mem_iff.2 hr))]
end Go.Proofs.YtbgimajbehodnaaGreatDoor

namespace Go.Proofs.YtbgimajbehodnaaGreatDoor
open Go Go.RowKit
section
variable {α : Type} (key : α → Int)
/-- Longer ones first. -/
def Desc (l : List α) : Prop := l.Pairwise fun a b => key b ≤ key a
/-- x, put behind all that are not less. -/
def insD (x : α) : List α → List α
  | [] => [x]
  | y :: l => if key x ≤ key y then y :: insD x l else x :: y :: l
theorem insD_len (x : α) : ∀ l : List α, (insD key x l).length = l.length + 1
  | [] => rfl
  | y :: l => by
    unfold insD
    split
    · rw [List.length_cons, insD_len x l, List.length_cons]
    · rfl
theorem insD_perm (x : α) : ∀ l : List α, (insD key x l).Perm (x :: l)
  | [] => List.Perm.refl _
  | y :: l => by
    unfold insD
    split
    · exact ((insD_perm x l).cons y).trans (List.Perm.swap x y l)
    · exact List.Perm.refl _
theorem insD_desc (x : α) : ∀ {l : List α}, Desc key l → Desc key (insD key x l)
  | [], _ => List.pairwise_singleton _ _
  | y :: l, h => by
    unfold Desc at h
    rw [List.pairwise_cons] at h
    unfold insD Desc
    split
    · rename_i hxy
      rw [List.pairwise_cons]
      refine ⟨fun z hz => ?_, insD_desc x h.2⟩
      rcases List.mem_cons.1 ((insD_perm key x l).mem_iff.1 hz) with rfl | hz
      · exact hxy
      · exact h.1 z hz
    · rename_i hxy
      rw [List.pairwise_cons]
      refine ⟨fun z hz => ?_, List.pairwise_cons.2 h⟩
      rcases List.mem_cons.1 hz with rfl | hz
      · omega
      · have := h.1 z hz; omega
/-- What is found from the end on. -/
theorem insD_at (x : α) : ∀ {l : List α} {n : Nat}, n ≤ l.length → (∀ y ∈ l.take n, key x ≤ key y) → (∀ y ∈ l.drop n, key y < key x) → insD key x l = l.take n ++ [x] ++ l.drop n
  | [], n, _, _, _ => by simp [insD]
  | y :: l, 0, _, _, h2 => by
    have := h2 y (by simp)
    unfold insD
    rw [if_neg (by omega)]
    rfl
  | y :: l, n + 1, hn, h1, h2 => by
    have hy := h1 y (by simp)
    unfold insD
    rw [if_pos hy, insD_at x (l := l) (n := n) (by simpa using hn) (fun z hz => h1 z (by rw [List.take_succ_cons]; exact List.mem_cons_of_mem _ hz)) (fun z hz => h2 z (by rw [List.drop_succ_cons]; exact hz))]
    rfl
theorem insD_take (x : α) : ∀ (l : List α) (n : Nat), (insD key x (l.take n)).take n = (insD key x l).take n
  | _, 0 => by simp
  | [], _ + 1 => by simp
  | y :: l, n + 1 => by
    rw [List.take_succ_cons]
    unfold insD
    split
    · rw [List.take_succ_cons, List.take_succ_cons, insD_take x l n]
    · rw [List.take_succ_cons, List.take_succ_cons]
      congr 1
      cases n with
      | zero => rfl
      | succ k => rw [List.take_succ_cons, List.take_succ_cons, List.take_take, Nat.min_eq_left (by omega)]
/-- All of them, the longest first; of like ones the earlier one first. -/
def srt (l : List α) : List α := l.foldl (fun o x => insD key x o) []
theorem srt_snoc (l : List α) (x : α) : srt key (l ++ [x]) = insD key x (srt key l) := by simp [srt]
theorem snoc_ind' {p : List α → Prop} (h0 : p []) (hs : ∀ xs x, p xs → p (xs ++ [x])) (xs : List α) : p xs := by
  have key : ∀ ys : List α, p ys.reverse := by
    intro ys
    induction ys with
    | nil => exact h0
    | cons y ys ih => rw [List.reverse_cons]; exact hs _ _ ih
  have := key xs.reverse
  rwa [List.reverse_reverse] at this
theorem srt_desc (l : List α) : Desc key (srt key l) := by
  refine snoc_ind' (p := fun l => Desc key (srt key l)) List.Pairwise.nil (fun xs x h => ?_) l
  rw [srt_snoc]
  exact insD_desc key x h
theorem srt_perm (l : List α) : (srt key l).Perm l := by
  refine snoc_ind' (p := fun l => (srt key l).Perm l) (List.Perm.refl _) (fun xs x h => ?_) l
  rw [srt_snoc]
  exact (insD_perm key x _).trans ((h.cons x).trans (List.perm_append_singleton x xs).symm)
theorem srt_len (l : List α) : (srt key l).length = l.length := (srt_perm key l).length_eq
/-- The first n of them, one behind the other. -/
def topS (n : Nat) (l : List α) : List α := l.foldl (fun o x => (insD key x o).take n) []
theorem topS_snoc (n : Nat) (l : List α) (x : α) : topS key n (l ++ [x]) = (insD key x (topS key n l)).take n := by simp [topS]
theorem topS_eq (n : Nat) (l : List α) : topS key n l = (srt key l).take n := by
  refine snoc_ind' (p := fun l => topS key n l = (srt key l).take n) (by simp [topS, srt]) (fun xs x h => ?_) l
  rw [topS_snoc, srt_snoc, h, insD_take]
theorem topS_len (n : Nat) (l : List α) : (topS key n l).length = min n l.length := by rw [topS_eq, List.length_take, srt_len]
theorem topS_desc (n : Nat) (l : List α) : Desc key (topS key n l) := by rw [topS_eq]; exact List.Pairwise.sublist (List.take_sublist _ _) (srt_desc key l)
end
end Go.Proofs.YtbgimajbehodnaaGreatDoor
