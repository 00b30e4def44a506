/- Records: plain laws. -/
import Derived.Test.YtmcdbjbkkejbbaaGreatWireB
namespace Go.Proofs.YtmcdbjbkkejbbaaGreat
open Go Go.RowKit

structure Rc where
  id : List Int
  peer : Int
  out : Bool
  oc : Int
  bg : Int
  an : Int
  en : Int

def Rc.cells (r : Rc) : List Value := ints .u8 r.id ++ [.int .u8 r.peer, .bool r.out, .int .u8 r.oc, .int .u64 r.bg, .int .u64 r.an, .int .u64 r.en]

def U8 (n : Int) : Prop := 0 ≤ n ∧ n < 256
def U64 (n : Int) : Prop := 0 ≤ n ∧ n < 18446744073709551616

structure Rc.ok (r : Rc) : Prop where
  len : r.id.length = 16
  id : Bytes r.id
  peer : U8 r.peer
  oc : U8 r.oc
  bg : U64 r.bg
  an : U64 r.an
  en : U64 r.en

theorem Rc.cells_len {r : Rc} (h : r.id.length = 16) : r.cells.length = 22 := by simp [Rc.cells, ints_length, h]
theorem Rc.get {r : Rc} (h : r.id.length = 16) (j : Nat) : r.cells[16 + j]? = [Value.int .u8 r.peer, .bool r.out, .int .u8 r.oc, .int .u64 r.bg, .int .u64 r.an, .int .u64 r.en][j]? := by
  unfold Rc.cells
  rw [List.getElem?_append_right (by rw [ints_length]; omega), ints_length, h, Nat.add_sub_cancel_left]
theorem Rc.c16 {r : Rc} (h : r.id.length = 16) : r.cells[0 + 16]? = some (.int .u8 r.peer) := Rc.get h 0
theorem Rc.c17 {r : Rc} (h : r.id.length = 16) : r.cells[0 + 17]? = some (.bool r.out) := Rc.get h 1
theorem Rc.c18 {r : Rc} (h : r.id.length = 16) : r.cells[0 + 18]? = some (.int .u8 r.oc) := Rc.get h 2
theorem Rc.c19 {r : Rc} (h : r.id.length = 16) : r.cells[0 + 19]? = some (.int .u64 r.bg) := Rc.get h 3
theorem Rc.c20 {r : Rc} (h : r.id.length = 16) : r.cells[0 + 20]? = some (.int .u64 r.an) := Rc.get h 4
theorem Rc.c21 {r : Rc} (h : r.id.length = 16) : r.cells[0 + 21]? = some (.int .u64 r.en) := Rc.get h 5
theorem Rc.cid {r : Rc} (h : r.id.length = 16) : (r.cells.drop (0 + 0)).take 16 = ints .u8 r.id := by
  unfold Rc.cells
  rw [Nat.add_zero, List.drop_zero, List.take_left' (by rw [ints_length, h])]
theorem Rc.call {r : Rc} (h : r.id.length = 16) : (r.cells.drop 0).take 22 = r.cells := by
  rw [List.drop_zero, List.take_of_length_le (by rw [Rc.cells_len h]; omega)]
theorem Rc.all {r : Rc} (h : r.id.length = 16) (ys : List Value) (hy : ys.length = 22) : r.cells.take 0 ++ ys ++ r.cells.drop (0 + 22) = ys := by
  rw [List.take_zero, List.nil_append, List.drop_of_length_le (by rw [Rc.cells_len h]; omega), List.append_nil]
theorem Rc.ones (r : Rc) : ∀ v ∈ r.cells, v.oneCell' = true := by
  intro v hv
  rcases List.mem_append.1 hv with h | h
  · exact ints_one _ _ v h
  · simp at h
    rcases h with rfl | rfl | rfl | rfl | rfl | rfl <;> rfl

theorem Rc.set {r : Rc} (h : r.id.length = 16) (j : Nat) (v : Value) : r.cells.set (16 + j) v = ints .u8 r.id ++ [Value.int .u8 r.peer, .bool r.out, .int .u8 r.oc, .int .u64 r.bg, .int .u64 r.an, .int .u64 r.en].set j v := by
  unfold Rc.cells
  rw [List.set_append_right _ _ (by rw [ints_length]; omega), ints_length, h, Nat.add_sub_cancel_left]
theorem Rc.s16 {r : Rc} (h : r.id.length = 16) (x : Int) : r.cells.set (0 + 16) (.int .u8 x) = { r with peer := x }.cells := Rc.set h 0 _
theorem Rc.s17 {r : Rc} (h : r.id.length = 16) (x : Bool) : r.cells.set (0 + 17) (.bool x) = { r with out := x }.cells := Rc.set h 1 _
theorem Rc.s18 {r : Rc} (h : r.id.length = 16) (x : Int) : r.cells.set (0 + 18) (.int .u8 x) = { r with oc := x }.cells := Rc.set h 2 _
theorem Rc.s19 {r : Rc} (h : r.id.length = 16) (x : Int) : r.cells.set (0 + 19) (.int .u64 x) = { r with bg := x }.cells := Rc.set h 3 _
theorem Rc.s20 {r : Rc} (h : r.id.length = 16) (x : Int) : r.cells.set (0 + 20) (.int .u64 x) = { r with an := x }.cells := Rc.set h 4 _
theorem Rc.s21 {r : Rc} (h : r.id.length = 16) (x : Int) : r.cells.set (0 + 21) (.int .u64 x) = { r with en := x }.cells := Rc.set h 5 _

def Rc.zero : Rc := ⟨List.replicate 16 0, 0, false, 0, 0, 0, 0⟩

/-- May it be? -/
def mayB (r : Rc) : Bool := decide (r.peer < 8) && decide (1 ≤ r.oc) && decide (r.oc ≤ 7) && decide (r.bg ≤ r.en) && (decide (r.an = 0) || (decide (r.bg ≤ r.an) && decide (r.an ≤ r.en)))

def gB (r : Rc) : Bool := decide (r.peer < 8) && decide (1 ≤ r.oc) && decide (r.oc ≤ 7) && decide (r.bg ≤ r.en)
theorem mayB_eq (r : Rc) : mayB r = (gB r && (decide (r.an = 0) || (decide (r.bg ≤ r.an) && decide (r.an ≤ r.en)))) := rfl

/-- A record's bytes. -/
def recB (r : Rc) : List Int := r.id ++ [r.peer] ++ flagB r.out ++ [r.oc] ++ be r.bg 8 ++ be r.an 8 ++ be r.en 8

theorem recB_len {r : Rc} (h : r.id.length = 16) : (recB r).length = 43 := by simp [recB, h, flagB, be_len]

/-- The record that bytes tell. -/
def recOf (bs : List Int) : Rc := ⟨bs.take 16, bs.getD 16 0, decide (bs.getD 17 0 = 1), bs.getD 18 0, val ((bs.drop 19).take 8), val ((bs.drop 27).take 8), val ((bs.drop 35).take 8)⟩
def goodB (bs : List Int) : Bool := decide (bs.length = 43) && decide (bs.getD 17 0 ≤ 1) && mayB (recOf bs)
def recT (bs : List Int) : Rc × Bool := if goodB bs then (recOf bs, true) else (Rc.zero, false)
def errT (b : Bool) : Int := if b then 0 else 9

def rcLeaf : List Leaf := List.replicate 16 (some .u8) ++ [some .u8, none, some .u8, some .u64, some .u64, some .u64]

theorem wf8 {n : Int} (h : U8 n) : (Lit.int .u8 n).wf = true := by
  rw [Lit.wf_int_iff]; have e1 : IntKind.u8.min = 0 := by decide
  have e2 : IntKind.u8.max = 255 := by decide
  rw [e1, e2]; unfold U8 at h; omega
theorem wf64 {n : Int} (h : U64 n) : (Lit.int .u64 n).wf = true := by
  rw [Lit.wf_int_iff]; have e1 : IntKind.u64.min = 0 := by decide
  have e2 : IntKind.u64.max = 18446744073709551615 := by decide
  rw [e1, e2]; unfold U64 at h; omega

theorem fits_ints {n : Nat} {xs : List Int} (h : xs.length = n) (hb : Bytes xs) : Fits1 (List.replicate n (some .u8)) (ints .u8 xs) := by
  induction xs generalizing n with
  | nil => subst h; simp [ints, Fits1]
  | cons x xs ih =>
    subst h
    exact ⟨⟨rfl, wf8 (hb x (by simp))⟩, ih rfl (fun y hy => hb y (by simp [hy]))⟩

theorem Rc.ok.fits {r : Rc} (h : r.ok) : Fits1 rcLeaf r.cells :=
  (fits_ints h.len h.id).mk ⟨⟨rfl, wf8 h.peer⟩, trivial, ⟨rfl, wf8 h.oc⟩, ⟨rfl, wf64 h.bg⟩, ⟨rfl, wf64 h.an⟩, ⟨rfl, wf64 h.en⟩, trivial⟩

theorem Rc.cells_inj {r s : Rc} (h1 : r.id.length = 16) (h2 : s.id.length = 16) (h : r.cells = s.cells) : r = s := by
  have a := congrArg (List.take 16) h
  have b := congrArg (List.drop 16) h
  unfold Rc.cells at a b
  rw [List.take_left' (by rw [ints_length, h1]), List.take_left' (by rw [ints_length, h2])] at a
  rw [List.drop_left' (by rw [ints_length, h1]), List.drop_left' (by rw [ints_length, h2])] at b
  have e : r.id = s.id := by
    unfold ints at a
    exact List.map_inj_right (fun x y h => by cases h; rfl) |>.1 a
  obtain ⟨i1, p1, o1, c1, b1, a1, e1⟩ := r
  obtain ⟨i2, p2, o2, c2, b2, a2, e2⟩ := s
  simp at b e
  obtain ⟨q1, q2, q3, q4, q5, q6⟩ := b
  subst e q1 q2 q3 q4 q5 q6
  rfl

theorem zero_ok : Rc.zero.ok := by
  refine ⟨rfl, ?_, ?_, ?_, ?_, ?_, ?_⟩
  · intro x hx
    have := List.eq_of_mem_replicate hx
    omega
  all_goals exact ⟨by show (0 : Int) ≤ 0; omega, by show (0 : Int) < _; omega⟩

theorem Bytes.slice8 {bs : List Int} (h : Bytes bs) (k : Nat) : U64 (val ((bs.drop k).take 8)) := by
  have h1 := val_range ((h.drop k).take 8)
  have h2 := pow256 (n := ((bs.drop k).take 8).length) (by simp; omega)
  exact ⟨h1.1, by omega⟩

theorem recOf_ok {bs : List Int} (h : Bytes bs) (hl : bs.length = 43) : (recOf bs).ok := by
  refine ⟨by simp [recOf, hl], h.take 16, ?_, ?_, h.slice8 19, h.slice8 27, h.slice8 35⟩
  · exact h.getD (i := 16) (by omega)
  · exact h.getD (i := 18) (by omega)

theorem recT_ok {bs : List Int} (h : Bytes bs) : (recT bs).1.ok := by
  unfold recT
  split
  · rename_i hg
    simp [goodB] at hg
    exact recOf_ok h hg.1.1
  · exact zero_ok

theorem ltB {a b : Nat} (h : a < b) : Nat.blt a b = true := Nat.ble_eq_true_of_le h
theorem leB {a b : Nat} (h : a ≤ b) : Nat.ble a b = true := Nat.ble_eq_true_of_le h

theorem ofId_step {bs : List Int} {n j : Nat} (h : j < n) (hl : j < bs.length) : (ints .u8 (bs.take j ++ List.replicate (n - j) 0)).set (0 + j * 1) (.int .u8 (bs.getD j 0)) = ints .u8 (bs.take (j + 1) ++ List.replicate (n - (j + 1)) 0) := by
  unfold ints
  rw [← List.map_set]
  congr 1
  rw [show 0 + j * 1 = j by omega, take_getD hl, List.append_assoc, List.set_append_right _ _ (by simp [Nat.min_le_left])]
  congr 1
  rw [show n - j = (n - (j + 1)) + 1 by omega, List.replicate_succ]
  simp [Nat.min_eq_left (Nat.le_of_lt hl)]

/-- A number's bytes, the lowest j of them. -/
def numK (n : Int) (many j : Nat) : List Int := List.replicate (many - j) 0 ++ (be n many).drop (many - j)
theorem numK_zero (n : Int) (many : Nat) : ints .u8 (numK n many 0) = List.replicate many (.int .u8 0) := by
  unfold numK
  rw [Nat.sub_zero, List.drop_of_length_le (by rw [be_len]; omega), List.append_nil]
  simp [ints]
theorem numK_all (n : Int) (many : Nat) : numK n many many = be n many := by unfold numK; simp
theorem be_get (n : Int) {many i : Nat} (h : i < many) : (be n many)[i]? = some (n / 2 ^ (8 * (many - 1 - i)) % 256) := by
  unfold be beK
  simp [h]
theorem numK_step (n : Int) {many j : Nat} (h : j < many) : (ints .u8 (numK n many j)).set (many - 1 - j) (.int .u8 (n / 2 ^ (8 * j) % 256)) = ints .u8 (numK n many (j + 1)) := by
  unfold ints numK
  rw [← List.map_set]
  congr 1
  have e1 : many - j = (many - 1 - j) + 1 := by omega
  have e2 : many - (j + 1) = many - 1 - j := by omega
  rw [e2, e1, List.replicate_succ', List.append_assoc, List.set_append_right _ _ (by simp)]
  congr 1
  have hg := be_get n (i := many - 1 - j) (many := many) (by omega)
  rw [show many - 1 - (many - 1 - j) = j by omega] at hg
  have hd : (be n many).drop (many - 1 - j) = (n / 2 ^ (8 * j) % 256) :: (be n many).drop (many - 1 - j + 1) := by
    obtain ⟨hl, hv⟩ := List.getElem?_eq_some_iff.1 hg
    rw [List.drop_eq_getElem_cons hl, hv]
  rw [hd]
  simp
theorem div256 (n : Int) (j : Nat) : n / 2 ^ (8 * j) / 256 = n / 2 ^ (8 * (j + 1)) := by
  rw [show (256 : Int) = 2 ^ 8 from rfl, Int.ediv_ediv_of_nonneg (Int.pow_nonneg (by decide)), ← Int.pow_add, show 8 * (j + 1) = 8 * j + 8 by omega]

theorem set17 {id : List Int} (h : id.length = 16) (p q o x : Int) : (ints .u8 (id ++ [p, q, o])).set 17 (.int .u8 x) = ints .u8 (id ++ [p, x, o]) := by
  unfold ints
  rw [← List.map_set, List.set_append_right _ _ (by omega), h]
  rfl

theorem len16 {id : List Int} (h : id.length = 16) : ∃ a0 a1 a2 a3 a4 a5 a6 a7 a8 a9 a10 a11 a12 a13 a14 a15 : Int, id = [a0, a1, a2, a3, a4, a5, a6, a7, a8, a9, a10, a11, a12, a13, a14, a15] := by
  match id, h with
  | [a0, a1, a2, a3, a4, a5, a6, a7, a8, a9, a10, a11, a12, a13, a14, a15], _ => exact ⟨a0, a1, a2, a3, a4, a5, a6, a7, a8, a9, a10, a11, a12, a13, a14, a15, rfl⟩

theorem build_rec {id : List Int} (h : id.length = 16) (p : Int) (o : Bool) (c b a e : Int) (w : World) :
    (Instr.build 33 [(0, .agg (ints .u8 id).toArray), (1, .int .u8 p), (2, .bool o), (3, .int .u8 c), (4, .int .u64 b), (5, .int .u64 a), (6, .int .u64 e)].toArray).run Tryz.prog w = .ok (.agg (Rc.mk id p o c b a e).cells.toArray) w := by
  obtain ⟨a0, a1, a2, a3, a4, a5, a6, a7, a8, a9, a10, a11, a12, a13, a14, a15, rfl⟩ := len16 h
  kernel_rfl

theorem recOf_id {bs : List Int} (h : bs.length = 43) : (recOf bs).id.length = 16 := by simp [recOf, h]

theorem RdS.sub8 {w : World} {T : Pm} {al : Option Addr} {cl l h : Nat} {bs : List Int} (hx : RdS w T (.slice al bs.length cl) 1 bs.length (ints .u8 bs)) (hh : l ≤ h ∧ h ≤ bs.length) :
    RdS w T (subS (.slice al bs.length cl) l h cl 1) 1 ((bs.drop l).take (h - l)).length (ints .u8 ((bs.drop l).take (h - l))) := fun w' hc => by
  have := (hx w' hc).sub l h hh.1 hh.2
  rw [Nat.mul_one, Nat.mul_one, ints_drop, ints_take] at this
  have e : ((bs.drop l).take (h - l)).length = h - l := by simp; omega
  rw [e]; exact this
end Go.Proofs.YtmcdbjbkkejbbaaGreat
