/- Records al cells; their sums: plain laws. -/
import Derived.Test.YtbgimajbehodnaaGreatDoorLibM
namespace Go.Proofs.YtbgimajbehodnaaGreatDoor
open Go Go.RowKit
/-- A record. -/
structure Rc where
  id : List Int
  peer : Int
  out : Bool
  oc : Int
  bg : Int
  an : Int
  en : Int
def Rc.cells (r : Rc) : List Value := ints .u8 r.id ++ [.int .u8 r.peer, .bool r.out, .int .u8 r.oc, .int .u64 r.bg, .int .u64 r.an, .int .u64 r.en]
def rcV (r : Rc) : Value := .agg r.cells.toArray
def U8 (n : Int) : Prop := 0 ≤ n ∧ n < 256
def U64 (n : Int) : Prop := 0 ≤ n ∧ n < 18446744073709551616
instance (n : Int) : Decidable (U64 n) := by unfold U64; infer_instance
structure Rc.ok (r : Rc) : Prop where
  len : r.id.length = 16
  id : ∀ x ∈ r.id, 0 ≤ x ∧ x < 256
  peer : U8 r.peer
  oc : U8 r.oc
  bg : U64 r.bg
  an : U64 r.an
  en : U64 r.en
theorem Rc.cells_len {r : Rc} (h : r.id.length = 16) : r.cells.length = 22 := by simp [Rc.cells, ints_length, h]
theorem Rc.get {r : Rc} (h : r.id.length = 16) (j : Nat) : r.cells[16 + j]? = [Value.int .u8 r.peer, .bool r.out, .int .u8 r.oc, .int .u64 r.bg, .int .u64 r.an, .int .u64 r.en][j]? := by
  unfold Rc.cells
  rw [List.getElem?_append_right (by rw [ints_length]; omega), ints_length, h, Nat.add_sub_cancel_left]
theorem Rc.c16 {r : Rc} (h : r.id.length = 16) : r.cells[0 + 16]? = some (.int .u8 r.peer) := Rc.get h 0
theorem Rc.c17 {r : Rc} (h : r.id.length = 16) : r.cells[0 + 17]? = some (.bool r.out) := Rc.get h 1
theorem Rc.c18 {r : Rc} (h : r.id.length = 16) : r.cells[0 + 18]? = some (.int .u8 r.oc) := Rc.get h 2
theorem Rc.c19 {r : Rc} (h : r.id.length = 16) : r.cells[0 + 19]? = some (.int .u64 r.bg) := Rc.get h 3
theorem Rc.c20 {r : Rc} (h : r.id.length = 16) : r.cells[0 + 20]? = some (.int .u64 r.an) := Rc.get h 4
theorem Rc.c21 {r : Rc} (h : r.id.length = 16) : r.cells[0 + 21]? = some (.int .u64 r.en) := Rc.get h 5
theorem Rc.call {r : Rc} (h : r.id.length = 16) : (r.cells.drop 0).take 22 = r.cells := by
  rw [List.drop_zero, List.take_of_length_le (by rw [Rc.cells_len h]; omega)]
theorem Rc.ones (r : Rc) : ∀ v ∈ r.cells, v.oneCell' = true := by
  intro v hv
  rcases List.mem_append.1 hv with h | h
  · exact ints_one _ _ v h
  · simp at h
    rcases h with rfl | rfl | rfl | rfl | rfl | rfl <;> rfl
def Rc.zero : Rc := ⟨List.replicate 16 0, 0, false, 0, 0, 0, 0⟩

/-! ### Sums -/
structure Sm where
  n : Int
  o : Int
  t : Int
  oc : List Int
  tk : Int
  lg : Int
  fi : Int
  la : Int
def Sm.cells (s : Sm) : List Value := .int .u64 s.n :: .int .u64 s.o :: .int .u64 s.t :: (ints .u64 s.oc ++ [.int .u64 s.tk, .int .u64 s.lg, .int .u64 s.fi, .int .u64 s.la])
def smV (s : Sm) : Value := .agg s.cells.toArray
def Sm.zero : Sm := ⟨0, 0, 0, List.replicate 8 0, 0, 0, 0, 0⟩
/-- As sums are: in range; what is none has no ticks. -/
structure Sm.ok (s : Sm) : Prop where
  n : U64 s.n
  o : U64 s.o
  t : U64 s.t
  ol : s.oc.length = 8
  oc : ∀ x ∈ s.oc, U64 x
  tk : U64 s.tk
  lg : U64 s.lg
  fi : U64 s.fi
  la : U64 s.la
  no : s.n = 0 → s.fi = 0 ∧ s.la = 0
theorem Sm.zero_ok : Sm.zero.ok := ⟨by decide, by decide, by decide, rfl, fun x hx => by rw [List.eq_of_mem_replicate hx]; decide, by decide, by decide, by decide, by decide, fun _ => ⟨rfl, rfl⟩⟩
theorem Sm.cells_len {s : Sm} (h : s.oc.length = 8) : s.cells.length = 15 := by simp [Sm.cells, ints_length, h]
theorem Sm.ones (s : Sm) : ∀ v ∈ s.cells, v.oneCell' = true := by
  intro v hv
  simp only [Sm.cells, List.mem_cons, List.mem_append, List.not_mem_nil, or_false] at hv
  rcases hv with rfl | rfl | rfl | h | rfl | rfl | rfl | rfl
  · rfl
  · rfl
  · rfl
  · exact ints_one _ _ _ h
  all_goals rfl
/-- 2^64 - 1 at most. -/
def satF (a b : Int) : Int := if a + b < 18446744073709551616 then a + b else 18446744073709551615
theorem satF_ok {a b : Int} (ha : U64 a) (hb : U64 b) : U64 (satF a b) := by unfold satF U64 at *; split <;> omega
theorem satF_eq0 {a b : Int} (ha : U64 a) (hb : U64 b) : satF a b = 0 ↔ a = 0 ∧ b = 0 := by unfold satF U64 at *; split <;> omega
def tookF (r : Rc) : Int := max r.en r.an - r.an
def ocF (r : Rc) : Nat := if 8 ≤ r.oc then 0 else r.oc.toNat
/-- The sum of a record. -/
def oneS (r : Rc) : Sm := ⟨1, if r.out then 1 else 0, if r.an = 0 then 0 else 1, (List.replicate 8 0).set (ocF r) 1, if r.an = 0 then 0 else tookF r, if r.an = 0 then 0 else tookF r, r.bg, r.en⟩
theorem oneS_ok {r : Rc} (h : r.ok) : (oneS r).ok := by
  have ha := h.an
  have he := h.en
  refine ⟨(by decide : U64 1), ?_, ?_, by simp [oneS], ?_, ?_, ?_, h.bg, h.en, fun e => by cases e⟩
  · unfold oneS; dsimp only; split <;> decide
  · unfold oneS; dsimp only; split <;> decide
  · intro x hx
    rcases List.mem_or_eq_of_mem_set hx with h1 | rfl
    · rw [List.eq_of_mem_replicate h1]; decide
    · decide
  · unfold oneS tookF U64 at *; dsimp only; split <;> omega
  · unfold oneS tookF U64 at *; dsimp only; split <;> omega
def joinS (a b : Sm) : Sm :=
  ⟨satF a.n b.n, satF a.o b.o, satF a.t b.t, List.zipWith satF a.oc b.oc, satF a.tk b.tk, max a.lg b.lg,
    if a.n = 0 then b.fi else if 0 < b.n then min a.fi b.fi else a.fi,
    if a.n = 0 then b.la else if 0 < b.n then max a.la b.la else a.la⟩
theorem Sm.ext' {a b : Sm} (h1 : a.n = b.n) (h2 : a.o = b.o) (h3 : a.t = b.t) (h4 : a.oc = b.oc) (h5 : a.tk = b.tk) (h6 : a.lg = b.lg) (h7 : a.fi = b.fi) (h8 : a.la = b.la) : a = b := by
  cases a; cases b; simp_all
theorem zip_mem {a b : List Int} (ha : ∀ x ∈ a, U64 x) (hb : ∀ x ∈ b, U64 x) : ∀ x ∈ List.zipWith satF a b, U64 x := by
  induction a generalizing b with
  | nil => intro x hx; simp at hx
  | cons a al ih =>
    cases b with
    | nil => intro x hx; simp at hx
    | cons b bs =>
      intro x hx
      rw [List.zipWith_cons_cons] at hx
      rcases List.mem_cons.1 hx with rfl | hx
      · exact satF_ok (ha _ (by simp)) (hb _ (by simp))
      · exact ih (fun y hy => ha y (List.mem_cons_of_mem _ hy)) (fun y hy => hb y (List.mem_cons_of_mem _ hy)) x hx
theorem joinS_ok {a b : Sm} (ha : a.ok) (hb : b.ok) : (joinS a b).ok := by
  have h1 := ha.n; have h2 := hb.n; have h3 := ha.fi; have h4 := hb.fi; have h5 := ha.la; have h6 := hb.la; have h7 := ha.lg; have h8 := hb.lg
  refine ⟨satF_ok ha.n hb.n, satF_ok ha.o hb.o, satF_ok ha.t hb.t, by simp [joinS, ha.ol, hb.ol], zip_mem ha.oc hb.oc, satF_ok ha.tk hb.tk, ?_, ?_, ?_, ?_⟩
  · show U64 (max a.lg b.lg); unfold U64 at *; omega
  · unfold joinS U64 at *; dsimp only; repeat' split
    all_goals omega
  · unfold joinS U64 at *; dsimp only; repeat' split
    all_goals omega
  · intro e
    obtain ⟨e1, e2⟩ := (satF_eq0 ha.n hb.n).1 e
    have := hb.no e2
    unfold joinS
    dsimp only
    rw [if_pos e1, if_pos e1]
    exact this
/-- The sum of records. -/
def sumS (l : List Rc) : Sm := l.foldl (fun s r => joinS s (oneS r)) Sm.zero
theorem sumS_snoc (l : List Rc) (r : Rc) : sumS (l ++ [r]) = joinS (sumS l) (oneS r) := by simp [sumS]
theorem sumS_ok : ∀ {l : List Rc}, (∀ r ∈ l, r.ok) → (sumS l).ok := by
  intro l
  have key : ∀ (l : List Rc) (s : Sm), s.ok → (∀ r ∈ l, r.ok) → (l.foldl (fun s r => joinS s (oneS r)) s).ok := by
    intro l
    induction l with
    | nil => exact fun s hs _ => hs
    | cons r l ih => exact fun s hs h => ih _ (joinS_ok hs (oneS_ok (h r (by simp)))) (fun q hq => h q (List.mem_cons_of_mem _ hq))
  exact fun h => key l _ Sm.zero_ok h
end Go.Proofs.YtbgimajbehodnaaGreatDoor
