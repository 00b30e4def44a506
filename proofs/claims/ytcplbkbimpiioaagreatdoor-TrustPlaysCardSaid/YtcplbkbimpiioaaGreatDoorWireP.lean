/- Bytes of numbers, numbers of bytes; what is taken: plain laws. -/
import Derived.Test.YtcplbkbimpiioaaGreatDoorLibV
namespace Go.Proofs.YtcplbkbimpiioaaGreatDoor
open Go Go.RowKit

def Bytes (bs : List Int) : Prop := ∀ x ∈ bs, 0 ≤ x ∧ x < 256

/-- The first k of a number's so many bytes, the highest one first. -/
def beK (n : Int) (many k : Nat) : List Int := (List.range k).map fun j => n / 2 ^ (8 * (many - 1 - j)) % 256
def be (n : Int) (many : Nat) : List Int := beK n many many

theorem beK_len (n : Int) (many k : Nat) : (beK n many k).length = k := by simp [beK]
theorem be_len (n : Int) (many : Nat) : (be n many).length = many := beK_len n many many
theorem beK_succ (n : Int) (many k : Nat) : beK n many (k + 1) = beK n many k ++ [n / 2 ^ (8 * (many - 1 - k)) % 256] := by simp [beK, List.range_succ]

/-- The number of bytes. -/
def val (bs : List Int) : Int := bs.foldl (fun n x => n * 256 + x) 0

theorem val_snoc (bs : List Int) (x : Int) : val (bs ++ [x]) = val bs * 256 + x := by simp [val]

theorem snoc_ind {α : Type} {p : List α → Prop} (h0 : p []) (hs : ∀ xs x, p xs → p (xs ++ [x])) (xs : List α) : p xs := by
  rw [← List.reverse_reverse xs]
  generalize xs.reverse = ys
  induction ys with
  | nil => exact h0
  | cons y ys ih => rw [List.reverse_cons]; exact hs _ _ ih

theorem val_range {bs : List Int} (h : Bytes bs) : 0 ≤ val bs ∧ val bs < 256 ^ bs.length := by
  refine snoc_ind (p := fun bs => Bytes bs → 0 ≤ val bs ∧ val bs < 256 ^ bs.length) (fun _ => by simp [val]) (fun bs x ih h => ?_) bs h
  have h1 := ih (fun y hy => h y (by simp [hy]))
  have h2 := h x (by simp)
  rw [val_snoc, List.length_append, List.length_singleton, Int.pow_succ]
  omega

theorem Bytes.take {bs : List Int} (h : Bytes bs) (k : Nat) : Bytes (bs.take k) := fun x hx => h x (List.mem_of_mem_take hx)
theorem Bytes.drop {bs : List Int} (h : Bytes bs) (k : Nat) : Bytes (bs.drop k) := fun x hx => h x (List.mem_of_mem_drop hx)
theorem Bytes.app {bs cs : List Int} (h : Bytes bs) (k : Bytes cs) : Bytes (bs ++ cs) := fun x hx => (List.mem_append.1 hx).elim (h x) (k x)
theorem Bytes.be (n : Int) (many : Nat) : Bytes (be n many) := fun x hx => by
  obtain ⟨j, _, rfl⟩ := List.mem_map.1 hx
  omega

/-- a number times 256, or'd with a byte -/
theorem or_byte (a x : Int) (h0 : 0 ≤ a) (h1 : a * 256 < 18446744073709551616) (hx : 0 ≤ x ∧ x < 256) : bits .or .u64 (a * 256) x = a * 256 + x := by
  obtain ⟨n, rfl⟩ := Int.eq_ofNat_of_zero_le h0
  obtain ⟨m, rfl⟩ := Int.eq_ofNat_of_zero_le hx.1
  have hm : m < 2 ^ 8 := by omega
  have hn : n * 256 < 2 ^ 64 := by omega
  have e : (n * 256) ||| m = n * 256 + m := by
    have := Nat.shiftLeft_add_eq_or_of_lt hm n
    rw [Nat.shiftLeft_eq] at this
    exact this.symm
  have e1 : (BitVec.ofInt 64 ((n : Int) * 256)).toNat = n * 256 := by
    rw [BitVec.toNat_ofInt]; omega
  have e2 : (BitVec.ofInt 64 ((m : Int))).toNat = m := by
    rw [BitVec.toNat_ofInt]; omega
  show IntKind.u64.wrap ((BitVec.ofInt 64 ((n : Int) * 256) ||| BitVec.ofInt 64 (m : Int)).toNat : Int) = _
  rw [BitVec.toNat_or, e1, e2, e, IntKind.wrap_u64]
  omega

theorem u64_in (n : Int) (h : 0 ≤ n ∧ n ≤ 18446744073709551615) : IntKind.u64.wrap n = n := by rw [IntKind.wrap_u64]; omega
theorem sh8 (a : Int) (h0 : 0 ≤ a) (h1 : a * 256 < 18446744073709551616) : IntKind.u64.wrap (a * 2 ^ (8 : Int).toNat) = a * 256 := by
  show IntKind.u64.wrap (a * 2 ^ 8) = _
  rw [u64_in _ (by omega)]; omega
theorem pow256 {n : Nat} (h : n ≤ 8) : (256 : Int) ^ n ≤ 18446744073709551616 := by
  have : n = 0 ∨ n = 1 ∨ n = 2 ∨ n = 3 ∨ n = 4 ∨ n = 5 ∨ n = 6 ∨ n = 7 ∨ n = 8 := by omega
  rcases this with rfl | rfl | rfl | rfl | rfl | rfl | rfl | rfl | rfl <;> decide

/-! ### What is taken -/

def tkOk (k : Nat) (bs : List Int) (wr : Bool) : Bool := !wr && decide (k ≤ bs.length)
def tkR (k : Nat) (bs : List Int) (wr : Bool) : List Int := if tkOk k bs wr then bs.take k else []
def tkB (k : Nat) (bs : List Int) (wr : Bool) : List Int := if tkOk k bs wr then bs.drop k else bs
def tkW (k : Nat) (bs : List Int) (wr : Bool) : Bool := !tkOk k bs wr

theorem tkW_F (k : Nat) (bs : List Int) : decide ((bs.length : Int) < (k : Int)) = tkW k bs false := by
  unfold tkW tkOk
  by_cases h : k ≤ bs.length
  · rw [decide_eq_false (by omega), decide_eq_true h]; rfl
  · rw [decide_eq_true (by omega), decide_eq_false h]; rfl
theorem Bytes.tkR {bs : List Int} (h : Bytes bs) (k : Nat) (wr : Bool) : Bytes (tkR k bs wr) := by
  unfold Go.Proofs.YtcplbkbimpiioaaGreatDoor.tkR; split
  · exact h.take k
  · intro x hx; cases hx
theorem Bytes.tkB {bs : List Int} (h : Bytes bs) (k : Nat) (wr : Bool) : Bytes (tkB k bs wr) := by
  unfold Go.Proofs.YtcplbkbimpiioaaGreatDoor.tkB; split
  · exact h.drop k
  · exact h
theorem tkR_len (k : Nat) (bs : List Int) (wr : Bool) : (tkR k bs wr).length ≤ k := by
  unfold tkR; split
  · simp; omega
  · simp
theorem ints_take (k : IntKind) (xs : List Int) (n : Nat) : (ints k xs).take n = ints k (xs.take n) := by simp [ints, List.map_take]
theorem ints_drop (k : IntKind) (xs : List Int) (n : Nat) : (ints k xs).drop n = ints k (xs.drop n) := by simp [ints, List.map_drop]
theorem val1 {bs : List Int} (h : Bytes bs) (wr : Bool) : 0 ≤ val (tkR 1 bs wr) ∧ val (tkR 1 bs wr) ≤ 255 := by
  have h1 := val_range (h.tkR 1 wr)
  have h2 := tkR_len 1 bs wr
  generalize tkR 1 bs wr = T at *
  have h3 : T.length = 0 ∨ T.length = 1 := by omega
  rcases h3 with h3 | h3 <;> rw [h3] at h1 <;> simp at h1 <;> omega
theorem getD_of {xs : List Int} {i : Nat} (h : i < xs.length) : xs[i]? = some (xs.getD i 0) := by simp [h]
theorem Bytes.getD {bs : List Int} (h : Bytes bs) {i : Nat} (hi : i < bs.length) : 0 ≤ bs.getD i 0 ∧ bs.getD i 0 < 256 := by
  have := List.mem_of_getElem? (getD_of hi)
  exact h _ this
theorem take_getD {xs : List Int} {i : Nat} (h : i < xs.length) : xs.take (i + 1) = xs.take i ++ [xs.getD i 0] := (take_snoc xs i _ (getD_of h)).symm

/-! ### What is put -/

/-- Bytes put, within a limit: what there is, and whether something was wrong. -/
def pt (lim : Int) (s : List Int × Bool) (xs : List Int) : List Int × Bool := if s.2 || decide (lim - s.1.length < xs.length) then (s.1, true) else (s.1 ++ xs, false)
def Fit (lim : Int) (s : List Int × Bool) : Prop := s.1.length = 0 ∨ (s.1.length : Int) ≤ lim

theorem pt_len (lim : Int) (s : List Int × Bool) (xs : List Int) : (pt lim s xs).1.length ≤ s.1.length + xs.length := by
  unfold pt; split
  · dsimp only; omega
  · simp
theorem pt_fit {lim : Int} {s : List Int × Bool} (h : Fit lim s) (xs : List Int) : Fit lim (pt lim s xs) := by
  unfold pt; split
  · exact h
  · rename_i hh
    simp at hh
    unfold Fit
    right
    simp; omega
theorem pt_no {lim : Int} {s : List Int × Bool} {xs : List Int} (h : (s.2 || decide (lim - s.1.length < xs.length)) = true) : pt lim s xs = (s.1, true) := by unfold pt; rw [if_pos h]
theorem pt_yes {lim : Int} {s : List Int × Bool} {xs : List Int} (h : (s.2 || decide (lim - s.1.length < xs.length)) = false) : pt lim s xs = (s.1 ++ xs, false) := by unfold pt; rw [if_neg (by rw [h]; decide)]
theorem pt_ok {lim : Int} {bs xs : List Int} (h : (bs.length : Int) + xs.length ≤ lim) : pt lim (bs, false) xs = (bs ++ xs, false) := pt_yes (by simp; omega)

def pts (lim : Int) (s : List Int × Bool) (l : List (List Int)) : List Int × Bool := l.foldl (pt lim) s
def total (l : List (List Int)) : Nat := (l.map List.length).foldr (· + ·) 0
theorem pts_snoc (lim : Int) (s : List Int × Bool) (l : List (List Int)) (x : List Int) : pts lim s (l ++ [x]) = pt lim (pts lim s l) x := by simp [pts]
theorem pts_fit {lim : Int} : ∀ (l : List (List Int)) {s : List Int × Bool}, Fit lim s → Fit lim (pts lim s l)
  | [], _, h => h
  | x :: l, _, h => pts_fit l (pt_fit h x)
theorem pts_len {lim : Int} : ∀ (l : List (List Int)) (s : List Int × Bool), (pts lim s l).1.length ≤ s.1.length + total l
  | [], s => by simp [pts, total]
  | x :: l, s => by
    have h1 := pts_len (lim := lim) l (pt lim s x)
    have h2 := pt_len lim s x
    have e : total (x :: l) = x.length + total l := rfl
    rw [e]
    show (pts lim (pt lim s x) l).1.length ≤ _
    omega
theorem total_take {l : List (List Int)} {i : Nat} {x : List Int} (h : l[i]? = some x) : total (l.take i) + x.length ≤ total l := by
  induction l generalizing i with
  | nil => simp at h
  | cons y l ih =>
    cases i with
    | zero => simp at h; subst h; simp [total]
    | succ i =>
      have := ih (by simpa using h)
      simp [total] at this ⊢
      omega
theorem be_byte (n : Int) (many k : Nat) (h : k < many) (h8 : many ≤ 8) : IntKind.u8.wrap (n / 2 ^ ((8 : Int) * ((many : Int) - 1 - (k : Int))).toNat) = n / 2 ^ (8 * (many - 1 - k)) % 256 := by
  rw [IntKind.wrap_u8, show ((8 : Int) * ((many : Int) - 1 - (k : Int))).toNat = 8 * (many - 1 - k) by omega]

end Go.Proofs.YtcplbkbimpiioaaGreatDoor
