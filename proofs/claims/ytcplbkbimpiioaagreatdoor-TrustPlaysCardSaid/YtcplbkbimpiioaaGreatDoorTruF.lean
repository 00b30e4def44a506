/- The digits of keys, in plain Lean. -/
import Derived.Test.YtcplbkbimpiioaaGreatDoorTruP
import Derived.Test.YtcplbkbimpiioaaGreatDoorShaH
import Derived.Test.YtcplbkbimpiioaaGreatDoorWireP
import Derived.Test.YtcplbkbimpiioaaGreatDoorLibI
import Derived.Test.YtcplbkbimpiioaaGreatDoorLibSt
namespace Go.Proofs.YtcplbkbimpiioaaGreatDoor
open Go Go.RowKit
def allK (l : List Ky) : List Int := l.flatMap Ky.b
theorem allK_next {l : List Ky} {i : Nat} {k : Ky} (h : l[i]? = some k) : allK (l.take (i + 1)) = allK (l.take i) ++ k.b := by
  unfold allK
  rw [take_snocK h, List.flatMap_append]
  simp
theorem allK_len (l : List Ky) : (allK l).length = 32 * l.length := by
  unfold allK
  induction l with
  | nil => rfl
  | cons k l ih => rw [List.flatMap_cons, List.length_append, ih, k.len, List.length_cons]; omega
def hashK (acc : Int) (l : List Ky) : Nat → List Int
  | 0 => sum512 ([[0, 0], allK l, [acc]] : List (List Int)).flatten
  | n + 1 => sum512 ([hashK acc l n, allK l] : List (List Int)).flatten
theorem hashK_len (acc : Int) (l : List Ky) : ∀ n, (hashK acc l n).length = 64
  | 0 => sum512_len _
  | _ + 1 => sum512_len _
def dv : Nat → Int
  | 0 => 10000
  | 1 => 1000
  | 2 => 100
  | 3 => 10
  | 4 => 1
  | _ => 0
theorem dv_pos {j : Nat} (h : j < 5) : 0 < dv j := by
  rcases j with _ | _ | _ | _ | _ | j <;> first | decide | omega
theorem dv_le (j : Nat) : 0 ≤ dv j ∧ dv j ≤ 10000 := by
  rcases j with _ | _ | _ | _ | _ | j <;> exact ⟨by first | decide | exact Int.le_refl _, by first | decide | (show (0 : Int) ≤ 10000; decide)⟩
theorem dv_next {j : Nat} (h : j < 5) : dv j / 10 = dv (j + 1) := by
  rcases j with _ | _ | _ | _ | _ | j <;> first | rfl | omega
def digJ (n : Int) (j : Nat) : List Int := (List.range j).map fun i => 48 + n / dv i % 10
theorem digJ_next (n : Int) (j : Nat) : digJ n (j + 1) = digJ n j ++ [48 + n / dv j % 10] := by simp [digJ, List.range_succ]
theorem digJ_len (n : Int) (j : Nat) : (digJ n j).length = j := by simp [digJ]
def grp (h : List Int) (i : Nat) : Int := val ((h.drop (5 * i)).take 5) % 100000
def digG (h : List Int) (i : Nat) : List Int := (List.range i).flatMap fun i => digJ (grp h i) 5
theorem digG_next (h : List Int) (i : Nat) : digG h (i + 1) = digG h i ++ digJ (grp h i) 5 := by simp [digG, List.range_succ]
theorem digG_len (h : List Int) : ∀ i, (digG h i).length = 5 * i
  | 0 => rfl
  | i + 1 => by rw [digG_next, List.length_append, digG_len h i, digJ_len]; omega
/-- Digits: sixty of a number's halves are thirty each. -/
def digF (acc : Int) (l : List Ky) : List Int := digG (hashK acc (setK l) 32) 6
theorem digF_len (acc : Int) (l : List Ky) : (digF acc l).length = 30 := digG_len _ 6
def Dig (bs : List Int) : Prop := ∀ x ∈ bs, 48 ≤ x ∧ x ≤ 57
theorem Dig.bytes {bs : List Int} (h : Dig bs) : Bytes bs := fun x hx => by have := h x hx; omega
theorem digJ_dig (n : Int) (j : Nat) : Dig (digJ n j) := by
  intro x hx
  obtain ⟨i, _, rfl⟩ := List.mem_map.1 hx
  omega
theorem digG_dig (h : List Int) (i : Nat) : Dig (digG h i) := by
  intro x hx
  obtain ⟨j, _, hj⟩ := List.mem_flatMap.1 hx
  exact digJ_dig _ _ x hj
theorem digF_dig (acc : Int) (l : List Ky) : Dig (digF acc l) := digG_dig _ _
theorem digF_congr {acc : Int} {l l' : List Ky} (h : setK l = setK l') : digF acc l = digF acc l' := by unfold digF; rw [h]
/-- The number of two texts. -/
def numF (a b : List Int) : List Int := if lexF b a < 0 then b ++ a else a ++ b
theorem numF_dig {a b : List Int} (ha : Dig a) (hb : Dig b) : Dig (numF a b) := by
  unfold numF
  split
  · intro x hx
    exact (List.mem_append.1 hx).elim (hb x) (ha x)
  · intro x hx
    exact (List.mem_append.1 hx).elim (ha x) (hb x)
theorem numF_len (a b : List Int) : (numF a b).length = a.length + b.length := by
  unfold numF
  split
  · rw [List.length_append, Nat.add_comm]
  · rw [List.length_append]
end Go.Proofs.YtcplbkbimpiioaaGreatDoor

namespace Go.Proofs.YtcplbkbimpiioaaGreatDoor
open Go Go.RowKit
theorem bytesLess_lex : ∀ {xs ys : List Int}, (∀ x ∈ xs, 0 ≤ x ∧ x < 256) → (∀ y ∈ ys, 0 ≤ y ∧ y < 256) → Op.bytesLess (Lib.bytesOf xs) (Lib.bytesOf ys) = decide (lexF xs ys < 0)
  | [], [], _, _ => rfl
  | [], _ :: _, _, _ => rfl
  | _ :: _, [], _, _ => rfl
  | x :: xs, y :: ys, h1, h2 => by
    have ih := bytesLess_lex (xs := xs) (ys := ys) (fun z hz => h1 z (by simp [hz])) (fun z hz => h2 z (by simp [hz]))
    have hx := h1 x (by simp)
    have hy := h2 y (by simp)
    have e1 : Lib.bytesOf (x :: xs) = UInt8.ofNat x.toNat :: Lib.bytesOf xs := rfl
    have e2 : Lib.bytesOf (y :: ys) = UInt8.ofNat y.toNat :: Lib.bytesOf ys := rfl
    rw [e1, e2]
    unfold Op.bytesLess
    rw [ih]
    have hl : decide (UInt8.ofNat x.toNat < UInt8.ofNat y.toNat) = decide (x < y) := decide_eq_decide.2 (u8_lt hx hy)
    have hb : (UInt8.ofNat x.toNat == UInt8.ofNat y.toNat) = decide (x = y) := by
      by_cases h : x = y
      · simp [h]
      · rw [decide_eq_false h, beq_eq_false_iff_ne]
        intro e
        have := congrArg UInt8.toNat e
        simp only [UInt8.toNat_ofNat'] at this
        omega
    rw [hl, hb]
    show _ = decide ((if x < y then (-1 : Int) else if y < x then 1 else lexF xs ys) < 0)
    by_cases h : x < y
    · rw [if_pos h, decide_eq_true h]; rfl
    · by_cases h' : y < x
      · rw [if_neg h, if_pos h', decide_eq_false h, decide_eq_false (show ¬ x = y by omega)]; rfl
      · rw [if_neg h, if_neg h', decide_eq_false h, decide_eq_true (show x = y by omega)]; rfl

theorem bytesOf_eq {xs ys : List Int} (h1 : Bytes xs) (h2 : Bytes ys) : (Lib.bytesOf xs == Lib.bytesOf ys) = decide (xs = ys) := by
  by_cases h : xs = ys
  · subst h; rw [decide_eq_true rfl]; exact beq_self_eq_true _
  · rw [decide_eq_false h, beq_eq_false_iff_ne]
    intro e
    apply h
    have hc := compare_lex h1 h2
    rw [e, compare_lex h2 h2, lexF_self] at hc
    exact lexF_eq hc.symm
section
variable {c : Cx} {env : Env} {ds : List Deferred} {H : List Res} {dst : Option Tmp} {ty : TypeId} {pos : String} {af : Array Edge} {g : Option (Nat × Bool)}
theorem le_str {xs ys : List Int} (h1 : Bytes xs) (h2 : Bytes ys) : (Op.bytesLess (Lib.bytesOf xs) (Lib.bytesOf ys) || (Lib.bytesOf xs == Lib.bytesOf ys)) = decide (lexF xs ys ≤ 0) := by
  rw [bytesLess_lex h1 h2, bytesOf_eq h1 h2]
  by_cases h : xs = ys
  · subst h
    rw [lexF_self, decide_eq_true rfl]; rfl
  · rw [decide_eq_false h, Bool.or_false, decide_eq_decide]
    constructor
    · intro h; omega
    · intro h3
      rcases Int.lt_or_eq_of_le h3 with h4 | h4
      · exact h4
      · exact absurd (lexF_eq h4) h
theorem Yl.sMin {t u : TypeId} {x y : Operand} {xs ys zs : List Int} (h1 : Bytes xs) (h2 : Bytes ys) (hz : (if lexF xs ys ≤ 0 then xs else ys) = zs) (hx : ev env x = some (.string (strOfNums xs))) (hy : ev env y = some (.string (strOfNums ys))) : Yl c env ds H ⟨dst, .call { callee := .builtin .min, args := #[x, y], argTypes := #[t, u] }, ty, pos, af, g⟩ (.string (strOfNums zs)) := fun a w ha _ => by
  have e := le_str h1 h2
  subst hz
  simp only [execOp, resolve, invoke, builtin, Sem.run_bind, Sem.run_pure, Result.andThen_ok, List.map_toArray, List.map_cons, List.map_nil, ha.ev hx, ha.ev hy]
  simp [Builtin.min_, Builtin.min2, Op.stringOp, Go.Lib.strOfNums_toList, e, asBool]
  split <;> rfl
theorem Yl.sMax {t u : TypeId} {x y : Operand} {xs ys zs : List Int} (h1 : Bytes xs) (h2 : Bytes ys) (hz : (if lexF xs ys < 0 then ys else xs) = zs) (hx : ev env x = some (.string (strOfNums xs))) (hy : ev env y = some (.string (strOfNums ys))) : Yl c env ds H ⟨dst, .call { callee := .builtin .max, args := #[x, y], argTypes := #[t, u] }, ty, pos, af, g⟩ (.string (strOfNums zs)) := fun a w ha _ => by
  have e := bytesLess_lex h1 h2
  subst hz
  simp only [execOp, resolve, invoke, builtin, Sem.run_bind, Sem.run_pure, Result.andThen_ok, List.map_toArray, List.map_cons, List.map_nil, ha.ev hx, ha.ev hy]
  simp [Builtin.max_, Builtin.max2, Op.stringOp, Go.Lib.strOfNums_toList, e, asBool]
  by_cases h : lexF xs ys < 0
  · rw [if_pos h, if_neg (by omega)]
  · rw [if_neg h, if_pos (by omega)]
theorem Yl.sAdd {t t2 : TypeId} {x y : Operand} {xs ys : List Int} (hl : xs.length + ys.length ≤ 9223372036854775807) (hx : ev env x = some (.string (strOfNums xs))) (hy : ev env y = some (.string (strOfNums ys))) : Yl c env ds H ⟨dst, .binOp .add t x y t2, ty, pos, af, g⟩ (.string (strOfNums (xs ++ ys))) := fun a w ha _ => by
  have e : strOfNums xs ++ strOfNums ys = strOfNums (xs ++ ys) := by
    apply ByteArray.ext
    simp [strOfNums]
  have hm : ¬ (((strOfNums xs).size + (strOfNums ys).size : Nat) : Int) > IntKind.i64.max := by
    rw [strOfNums_size, strOfNums_size]
    show ¬ ((xs.length + ys.length : Nat) : Int) > 9223372036854775807
    omega
  simp only [execOp, ha.ev hx, ha.ev hy, eqGuard, binOp, Op.stringOp, hm, e]
  simp [e]
/-- a part of an array, as a slice -/
theorem Yl.sliceArrLH {t e : TypeId} {x y z : Operand} {n size b o l h : Nat} {k k2 : IntKind} {i j : Int} (hu : c.P.underlying t = some (.array n e)) (hsz : (c.P.info? e).map (·.size) = some size) (h0 : n ≠ 0) (hx : ev env x = some (.pointer (some ⟨b, o, none⟩))) (hy : ev env y = some (.int k i)) (hz : ev env z = some (.int k2 j)) (hi : i = (l : Int)) (hj : j = (h : Int)) (hlh : l ≤ h) (hh : h ≤ n) (hln : l < n) :
    Yl c env ds H ⟨dst, .slice t x (some y) (some z) none, ty, pos, af, g⟩ (.slice (some ⟨b, o + l * size, none⟩) (h - l) (n - l)) := fun a w ha _ => by
  subst hi hj
  cases hi : c.P.info? e with
  | none => simp [hi] at hsz
  | some i =>
    have his : i.size = size := by simpa [hi] using hsz
    have hh2 : (h : Int) ≤ (n : Int) := by omega
    have hl2 : (l : Int) ≤ (h : Int) := by omega
    have hn2 : n ≠ l := by omega
    have hn3 : ¬ n - l = 0 := by omega
    simp [execOp, ha.ev hx, ha.ev hy, ha.ev hz, Instr.sliceAt, run_underlying hu, Instr.sureAddr, Instr.sliceBounds, Instr.sliceBound, asIntOf, sizeOf, typeInfo, hi, h0, hh2, hl2, hn3, Addr.add, his, hh, hlh, hn2]
end
end Go.Proofs.YtcplbkbimpiioaaGreatDoor
