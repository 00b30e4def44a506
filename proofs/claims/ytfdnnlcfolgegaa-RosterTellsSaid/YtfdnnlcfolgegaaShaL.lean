/- Owned rows cut at an end; a text's blocks, its padding, the sum's bytes: plain laws. -/
import Derived.Test.YtfdnnlcfolgegaaShaE
namespace Go.Proofs.Ytfdnnlcfolgegaa
open Go Go.RowKit

theorem Sown.tail {w : World} {e : TypeId} {ao : Option Addr} {n cap l : Nat} {cs : List Value} (h : Sown w e 1 (.slice ao n cap) n cs) (hl : l ≤ n) : Sown w e 1 (subS (.slice ao n cap) l n cap 1) (n - l) (cs.drop l) := by
  have hlen := h.1
  refine ⟨by rw [List.length_drop, hlen]; omega, ?_⟩
  rcases h.2 with ⟨hv, h0⟩ | ⟨b, off, cap', cur, hv, hb, h1, h2, h3, h4⟩
  · cases hv
    have : l = 0 := by omega
    subst this
    exact .inl ⟨rfl, rfl⟩
  · cases hv
    right
    by_cases hc : cap = l
    · subst hc
      have hn : n = cap := by omega
      subst hn
      refine ⟨b, off, 0, cur, by simp [subS], hb, by omega, by omega, by omega, fun j u hj => ?_⟩
      rw [List.drop_of_length_le (by omega)] at hj
      simp at hj
    · refine ⟨b, off + l, cap - l, cur, by simp [subS, hc, Addr.add_lit], hb, by omega, by omega, by omega, fun j u hj => ?_⟩
      rw [List.getElem?_drop] at hj
      have := h4 (l + j) u hj
      rw [Nat.add_assoc]
      exact this

theorem Sown.clip {w : World} {e : TypeId} {ao : Option Addr} {n cap : Nat} {cs : List Value} (h : Sown w e 1 (.slice ao n cap) n cs) : Sown w e 1 (subS (.slice ao n cap) 0 n n 1) n cs := by
  refine ⟨h.1, ?_⟩
  rcases h.2 with ⟨hv, h0⟩ | ⟨b, off, cap', cur, hv, hb, h1, h2, h3, h4⟩
  · cases hv
    exact .inl ⟨by simp [subS, h0], h0⟩
  · cases hv
    refine .inr ⟨b, off, n, cur, ?_, hb, Nat.le_refl _, by omega, by omega, h4⟩
    by_cases hn : n = 0
    · simp [subS, hn]
    · simp [subS, Addr.add]

theorem OK.tail {w0 : World} {S : Pm} {H F : List Res} {w : World} {e : TypeId} {ao : Option Addr} {n cap l : Nat} {cs : List Value} (h : OK w0 S H w) (t : Take1 H (ownR (.slice ao n cap) e 1 n cs) F) (hl : l ≤ n) :
    OK w0 S (ownR (subS (.slice ao n cap) l n cap 1) e 1 (n - l) (cs.drop l) :: F) w :=
  h.recast t (fun hs => Sown.tail hs hl) (fun k hk => by
    cases ao with
    | none => simp [subS] at hk; exact hk.elim
    | some a =>
      simp only [subS] at hk
      split at hk
      · exact hk
      · obtain ⟨b, o, s⟩ := a
        have : ((⟨b, o, s⟩ : Addr).add (l * 1)).block = b := by unfold Addr.add; split <;> rfl
        show b = k
        rw [← this]; exact hk)
theorem OK.clip {w0 : World} {S : Pm} {H F : List Res} {w : World} {e : TypeId} {ao : Option Addr} {n cap : Nat} {cs : List Value} (h : OK w0 S H w) (t : Take1 H (ownR (.slice ao n cap) e 1 n cs) F) :
    OK w0 S (ownR (subS (.slice ao n cap) 0 n n 1) e 1 n cs :: F) w :=
  h.recast t (fun hs => Sown.clip hs) (fun k hk => by
    cases ao with
    | none => simp [subS] at hk; exact hk.elim
    | some a =>
      simp only [subS] at hk
      split at hk
      · exact hk
      · have : (a.add (0 * 1)) = a := by simp [Addr.add]
        simp only [Option.map_some, this] at hk
        exact hk)

/-- The state behind so many blocks of a text. -/
def bkF (k : IntKind) (B : Int) (z n : Nat) (T : Tn) (ks H bs : List Int) : Nat → List Int
  | 0 => H
  | c + 1 => blockF k B z n T ks (bkF k B z n T ks H bs c) ((bs.drop (c * (16 * z))).take (16 * z))
theorem bkF_len {k : IntKind} {B : Int} {z n : Nat} {T : Tn} {ks H bs : List Int} : ∀ c, (bkF k B z n T ks H bs c).length = H.length
  | 0 => rfl
  | c + 1 => by unfold bkF; rw [blockF_len, bkF_len c]
theorem bkF_app {k : IntKind} {B : Int} {z n : Nat} {T : Tn} {ks H bs cs : List Int} : ∀ {c : Nat}, c * (16 * z) ≤ bs.length → bkF k B z n T ks H (bs ++ cs) c = bkF k B z n T ks H bs c
  | 0, _ => rfl
  | c + 1, h => by
    rw [Nat.succ_mul] at h
    unfold bkF
    rw [bkF_app (c := c) (by omega), List.drop_append_of_le_length (by omega), List.take_append_of_le_length (by rw [List.length_drop]; omega)]

theorem ints_more {k : IntKind} {X : List Int} {c s : Nat} : (ints k (X.drop (c * s))).drop s = ints k (X.drop ((c + 1) * s)) := by
  unfold ints
  rw [← List.map_drop, List.drop_drop, Nat.succ_mul]

/-- The length's bytes, so many of the last ones. -/
def lnF (z n : Nat) : Nat → List Int
  | 0 => List.replicate (2 * z) 0
  | i + 1 => (lnF z n i).set (2 * z - 1 - i) (IntKind.u8.wrap (IntKind.u64.wrap ((n : Int) * 2 ^ (3 : Int).toNat) / 2 ^ (8 * (i : Int)).toNat))
theorem lnF_len (z n : Nat) : ∀ i, (lnF z n i).length = 2 * z
  | 0 => by simp [lnF]
  | i + 1 => by simp [lnF, lnF_len z n i]
def zeroN (z n : Nat) : Nat := (16 * z - (n + 1 + 2 * z) % (16 * z)) % (16 * z)
def padF (z : Nat) (msg : List Int) : List Int := msg ++ ([128] ++ List.replicate (zeroN z msg.length) 0 ++ lnF z msg.length 8)
/-- A word's bytes, so many of the first ones. -/
def wdF (z : Nat) (x : Int) (j : Nat) : List Int := (List.range j).map fun t : Nat => IntKind.u8.wrap (x / 2 ^ (8 * ((z : Int) - 1 - (t : Int))).toNat)
theorem wdF_len (z : Nat) (x : Int) (j : Nat) : (wdF z x j).length = j := by simp [wdF]
theorem wdF_succ (z : Nat) (x : Int) (j : Nat) : wdF z x (j + 1) = wdF z x j ++ [IntKind.u8.wrap (x / 2 ^ (8 * ((z : Int) - 1 - (j : Int))).toNat)] := by simp [wdF, List.range_succ]
def dgF (z : Nat) (xs : List Int) : List Int := (xs.map fun x => wdF z x z).flatten
theorem dgF_len (z : Nat) : ∀ xs : List Int, (dgF z xs).length = xs.length * z
  | [] => by simp [dgF]
  | x :: xs => by
    have := dgF_len z xs
    unfold dgF at this ⊢
    rw [List.map_cons, List.flatten_cons, List.length_append, wdF_len, this, List.length_cons, Nat.succ_mul, Nat.add_comm]
theorem dgF_snoc (z : Nat) {xs : List Int} {i : Nat} (h : i < xs.length) : dgF z (xs.take (i + 1)) = dgF z (xs.take i) ++ wdF z (xs.getD i 0) z := by
  rw [List.take_add_one]
  unfold dgF
  rw [List.map_append, List.flatten_append]
  congr 1
  simp [h]
/-- The sum of a text. -/
def sumF (k : IntKind) (B : Int) (z n : Nat) (T : Tn) (ks H msg : List Int) : List Int := dgF z (bkF k B z n T ks H (padF z msg) ((padF z msg).length / (16 * z)))
end Go.Proofs.Ytfdnnlcfolgegaa
