/- Texts cut at blanks, at line ends; rows' texts: plain laws. -/
import Derived.Test.YtbgimajbehodnaaGreatDoorRepU
import Derived.Lib.Split
import Derived.Lib.SplitLaws
import Derived.Lib.ReplaceLaws
import Derived.Lib.Replace
namespace Go.Proofs.YtbgimajbehodnaaGreatDoor
open Go Go.RowKit
/-! ### Cut at blanks -/
def spI : List Int → List (List Int)
  | [] => [[]]
  | x :: l => if x = 32 then [] :: spI l else match spI l with
    | [] => [[x]]
    | p :: ps => (x :: p) :: ps
def Free (k : Int) (a : List Int) : Prop := ∀ x ∈ a, x ≠ k
theorem Free.tail {k x : Int} {a : List Int} (h : Free k (x :: a)) : Free k a := fun y hy => h y (List.mem_cons_of_mem _ hy)
theorem spI_free : ∀ {a : List Int}, Free 32 a → spI a = [a]
  | [], _ => rfl
  | x :: a, h => by
    rw [spI, if_neg (h x (by simp)), spI_free h.tail]
theorem spI_app : ∀ {a : List Int} (l : List Int), Free 32 a → spI (a ++ 32 :: l) = a :: spI l
  | [], l, _ => by rw [List.nil_append, spI, if_pos rfl]
  | x :: a, l, h => by
    rw [List.cons_append, spI, if_neg (h x (by simp)), spI_app l h.tail]
def joI (qs : List (List Int)) : List Int := qs.flatMap fun q => 32 :: q
theorem spI_join : ∀ {qs : List (List Int)} {a : List Int}, Free 32 a → (∀ q ∈ qs, Free 32 q) → spI (a ++ joI qs) = a :: qs
  | [], a, ha, _ => by rw [show joI [] = [] from rfl, List.append_nil, spI_free ha]
  | q :: qs, a, ha, hq => by
    rw [show joI (q :: qs) = 32 :: (q ++ joI qs) by simp [joI], spI_app _ ha, spI_join (hq q (by simp)) fun r hr => hq r (List.mem_cons_of_mem _ hr)]
theorem spI_back : ∀ {l a : List Int} {qs : List (List Int)}, spI l = a :: qs → l = a ++ joI qs
  | [], a, qs, h => by
    rw [spI] at h
    cases h
    rfl
  | x :: l, a, qs, h => by
    rw [spI] at h
    split at h
    · rename_i e
      subst e
      cases h
      cases hs : spI l with
      | nil => cases l with | nil => cases hs | cons y l => rw [spI] at hs; split at hs <;> first | cases hs | (split at hs <;> cases hs)
      | cons p ps => rw [spI_back hs]; simp [joI]
    · cases hs : spI l with
      | nil => rw [hs] at h; cases l with | nil => cases hs | cons y l => rw [spI] at hs; split at hs <;> first | cases hs | (split at hs <;> cases hs)
      | cons p ps =>
        rw [hs] at h
        cases h
        rw [spI_back hs]
        rfl
/-! ### .. by the library -/
def spB : List UInt8 → List (List UInt8)
  | [] => [[]]
  | x :: l => if x = 32 then [] :: spB l else match spB l with
    | [] => [[x]]
    | p :: ps => (x :: p) :: ps
theorem spB_none : ∀ {l : List UInt8}, Lib.count l [32] = 0 → spB l = [l]
  | [], _ => rfl
  | b :: l, h => by
    have hb : b ≠ 32 := by
      rintro rfl
      rw [Lib.count_cons_eq] at h
      omega
    rw [Lib.count_cons_ne _ _ _ hb] at h
    rw [spB, if_neg hb, spB_none h]
theorem splitK_hit (sep : List UInt8) (save k : Nat) (s : List UInt8) (i : Nat) (h : Lib.index s sep = i) : Lib.splitK sep save (k + 1) s = s.take (i + save) :: Lib.splitK sep save k (s.drop (i + sep.length)) := by
  have hm : ¬ (Lib.index s sep == -1) = true := fun e => by have := beq_iff_eq.1 e; omega
  have e : (Lib.index s sep).toNat = i := by omega
  rw [Lib.splitK, if_neg hm, e]
theorem splitK_spB : ∀ (k : Nat) (l : List UInt8), Lib.count l [32] = k → Lib.splitK [32] 0 k l = spB l
  | 0, l, h => by rw [spB_none h]; rfl
  | k + 1, l, h => by
    induction l with
    | nil => rw [show Lib.count [] [32] = 0 from rfl] at h; omega
    | cons b l ih =>
      by_cases hb : b = 32
      · subst hb
        rw [Lib.count_cons_eq] at h
        have hi : Lib.index (32 :: l) [32] = (0 : Nat) := rfl
        rw [splitK_hit _ _ _ _ 0 hi, spB, if_pos rfl, ← splitK_spB k l (by omega)]
        rfl
      · rw [Lib.count_cons_ne _ _ _ hb] at h
        have hl := ih h
        obtain ⟨i, hi⟩ := Lib.index_of_count (s := l) (old := [32]) (by omega)
        rw [splitK_hit _ _ _ _ i hi] at hl
        have hi2 : Lib.index (b :: l) [32] = ((i + 1 : Nat) : Int) := by
          show (if [32].isPrefixOf (b :: l) then (0 : Int) else if Lib.index l [32] == -1 then -1 else Lib.index l [32] + 1) = _
          rw [if_neg (by simpa [List.isPrefixOf] using fun e => hb e.symm), hi, if_neg (by simp), Int.natCast_succ]
        rw [splitK_hit _ _ _ _ (i + 1) hi2, spB, if_neg hb, ← hl]
        simp [Nat.add_right_comm]
def u8L (l : List Int) : List UInt8 := l.map fun n => UInt8.ofNat n.toNat
theorem spB_of : ∀ {l : List Int}, Bytes l → spB (u8L l) = (spI l).map u8L
  | [], _ => rfl
  | x :: l, h => by
    have ih := spB_of (l := l) fun y hy => h y (List.mem_cons_of_mem _ hy)
    have hx := h x (by simp)
    have e : (UInt8.ofNat x.toNat = 32) ↔ x = 32 := by
      constructor
      · intro h2
        have h3 := congrArg UInt8.toNat h2
        rw [UInt8.toNat_ofNat', Nat.mod_eq_of_lt (by omega)] at h3
        have : (32 : UInt8).toNat = 32 := rfl
        omega
      · rintro rfl; rfl
    show spB (UInt8.ofNat x.toNat :: u8L l) = _
    rw [spB, spI]
    by_cases hx2 : x = 32
    · rw [if_pos (e.2 hx2), if_pos hx2, ih]; rfl
    · rw [if_neg (fun q => hx2 (e.1 q)), if_neg hx2, ih]
      cases spI l with
      | nil => rfl
      | cons p ps => rfl
theorem split_str {l : List Int} (h : Bytes l) : Lib.splitB ⟨#[32]⟩ 0 (Lib.countB (strOfNums l) ⟨#[32]⟩) (strOfNums l) = (spI l).map strOfNums := by
  have h1 := Lib.splitB_data ⟨#[32]⟩ 0 (Lib.countB (strOfNums l) ⟨#[32]⟩) (strOfNums l)
  have h2 : Lib.splitK [32] 0 (Lib.countB (strOfNums l) ⟨#[32]⟩) (strOfNums l).data.toList = spB (strOfNums l).data.toList := splitK_spB _ _ rfl
  have h3 : (strOfNums l).data.toList = u8L l := strOfNums_data l
  rw [show ((⟨#[32]⟩ : ByteArray).data.toList) = [32] from rfl, h2, h3, spB_of h] at h1
  have h4 : (spI l).map u8L = ((spI l).map strOfNums).map (·.data.toList) := by
    rw [List.map_map]
    exact List.map_congr_left fun p _ => (strOfNums_data p).symm
  rw [h4] at h1
  exact List.map_inj_right (fun x y e => by
    cases x; cases y
    simp only [ByteArray.mk.injEq]
    exact Array.toList_inj.1 e) |>.1 h1
theorem split_len {l : List Int} (h : Bytes l) : Lib.countB (strOfNums l) ⟨#[32]⟩ + 1 = (spI l).length := by
  have h1 := Lib.splitB_all ⟨#[32]⟩ (by decide) 0 _ (strOfNums l) rfl
  rw [split_str h, List.length_map] at h1
  omega
theorem spI_bytes : ∀ {l : List Int}, Bytes l → ∀ p ∈ spI l, Bytes p
  | [], _, p, hp => by rw [spI, List.mem_singleton] at hp; subst hp; exact fun _ h => nomatch h
  | x :: l, h, p, hp => by
    have ih := spI_bytes (l := l) fun y hy => h y (List.mem_cons_of_mem _ hy)
    rw [spI] at hp
    split at hp
    · rcases List.mem_cons.1 hp with rfl | hp
      · exact fun _ h => nomatch h
      · exact ih p hp
    · cases hs : spI l with
      | nil => rw [hs] at hp; rw [List.mem_singleton.1 hp]; exact fun y hy => h y (by rw [List.mem_singleton.1 hy]; simp)
      | cons q qs =>
        rw [hs] at hp ih
        rcases List.mem_cons.1 hp with rfl | hp
        · exact fun y hy => by
            rcases List.mem_cons.1 hy with rfl | hy
            · exact h y (by simp)
            · exact ih q (by simp) y hy
        · exact ih p (List.mem_cons_of_mem _ hp)
theorem spI_le : ∀ {l : List Int}, ∀ p ∈ spI l, p.length ≤ l.length
  | [], p, hp => by rw [spI, List.mem_singleton] at hp; subst hp; exact Nat.le_refl _
  | x :: l, p, hp => by
    have ih := spI_le (l := l)
    rw [spI] at hp
    rw [List.length_cons]
    split at hp
    · rcases List.mem_cons.1 hp with rfl | hp
      · exact Nat.zero_le _
      · have := ih p hp; omega
    · cases hs : spI l with
      | nil => rw [hs] at hp; rw [List.mem_singleton.1 hp]; simp
      | cons q qs =>
        rw [hs] at hp ih
        rcases List.mem_cons.1 hp with rfl | hp
        · have := ih q (by simp); rw [List.length_cons]; omega
        · have := ih p (List.mem_cons_of_mem _ hp); omega
/-! ### Lines -/
def lnI : List Int → List (List Int)
  | [] => []
  | x :: l => if x = 10 then [10] :: lnI l else match lnI l with
    | [] => [[x]]
    | p :: ps => (x :: p) :: ps
theorem lnI_hit : ∀ {a : List Int} (l : List Int), Free 10 a → lnI (a ++ 10 :: l) = (a ++ [10]) :: lnI l
  | [], l, _ => by rw [List.nil_append, lnI, if_pos rfl]; rfl
  | x :: a, l, h => by
    rw [List.cons_append, lnI, if_neg (h x (by simp)), lnI_hit l h.tail]
    rfl
theorem lnI_none : ∀ {a : List Int}, Free 10 a → a ≠ [] → lnI a = [a]
  | [], _, h => absurd rfl h
  | [x], h, _ => by rw [lnI, if_neg (h x (by simp))]; rfl
  | x :: y :: a, h, _ => by
    rw [lnI, if_neg (h x (by simp)), lnI_none h.tail (by simp)]
theorem lnI_flat : ∀ l : List Int, (lnI l).flatten = l
  | [] => rfl
  | x :: l => by
    have ih := lnI_flat l
    rw [lnI]
    split
    · rename_i e; subst e; rw [List.flatten_cons, ih]; rfl
    · cases hs : lnI l with
      | nil => rw [hs] at ih; rw [← ih]; rfl
      | cons p ps => rw [hs] at ih; rw [← ih]; simp
theorem lnI_of : ∀ {ps : List (List Int)} (l : List Int), (∀ p ∈ ps, Free 10 p) → lnI ((ps.flatMap fun p => p ++ [10]) ++ l) = (ps.map fun p => p ++ [10]) ++ lnI l
  | [], l, _ => rfl
  | p :: ps, l, h => by
    rw [List.flatMap_cons, List.append_assoc, List.append_assoc, List.singleton_append, lnI_hit _ (h p (by simp)), lnI_of l fun q hq => h q (List.mem_cons_of_mem _ hq)]
    rfl
theorem lnI_le (l : List Int) : (lnI l).length ≤ l.length := by
  induction l with
  | nil => exact Nat.le_refl _
  | cons x l ih =>
    rw [lnI]
    split
    · rw [List.length_cons, List.length_cons]; omega
    · cases hs : lnI l with
      | nil => simp
      | cons p ps => rw [hs, List.length_cons] at ih; simp only [List.length_cons]; omega
theorem lnI_bytes {l : List Int} (h : Bytes l) : ∀ p ∈ lnI l, Bytes p := fun p hp x hx => h x (by rw [← lnI_flat l]; exact List.mem_flatten.2 ⟨p, hp, hx⟩)
theorem lnI_plen {l : List Int} : ∀ p ∈ lnI l, p.length ≤ l.length := fun p hp => by
  have := List.Sublist.length_le (List.sublist_flatten_of_mem hp)
  rwa [lnI_flat] at this
/-- What ends in a line's end: each line does. -/
theorem lnI_ends : ∀ {l : List Int}, (l = [] ∨ l.getLast? = some 10) → ∀ p ∈ lnI l, ∃ q, p = q ++ [10]
  | [], _, p, hp => nomatch hp
  | [x], h, p, hp => by
    have hx : x = 10 := by rcases h with h | h <;> simp at h; exact h
    subst hx
    rw [lnI, if_pos rfl] at hp
    rw [List.mem_singleton.1 hp]
    exact ⟨[], rfl⟩
  | x :: y :: l, h, p, hp => by
    have ih := lnI_ends (l := y :: l) (.inr (by rcases h with h | h; cases h; rwa [List.getLast?_cons_cons] at h))
    rw [lnI] at hp
    split at hp
    · rename_i e
      subst e
      rcases List.mem_cons.1 hp with rfl | hp
      · exact ⟨[], rfl⟩
      · exact ih p hp
    · cases hs : lnI (y :: l) with
      | nil => rw [lnI] at hs; split at hs <;> first | cases hs | (split at hs <;> cases hs)
      | cons q qs =>
        rw [hs] at hp ih
        rcases List.mem_cons.1 hp with rfl | hp
        · obtain ⟨q', e⟩ := ih q (by simp); exact ⟨x :: q', by rw [e]; rfl⟩
        · exact ih p (List.mem_cons_of_mem _ hp)
/-! ### Rows' texts -/
def rowT (p : Int) (ns : List Int) : List Int := decI p.toNat ++ numI ns
theorem numI_jo (ns : List Int) : numI ns = joI (ns.map fun n => decI n.toNat) := by
  unfold numI joI
  rw [List.flatMap_map]
theorem decI_free {k : Int} (hk : k < 48) (u : Nat) : Free k (decI u) := fun x hx => by have := decI_dig u x hx; omega
theorem rowT_free (p : Int) (ns : List Int) : Free 10 (rowT p ns) := fun x hx => by
  rcases List.mem_append.1 hx with h | h
  · exact decI_free (by decide) _ x h
  · simp only [numI, List.mem_flatMap, List.mem_cons] at h
    obtain ⟨n, _, rfl | h⟩ := h
    · decide
    · exact decI_free (by decide) _ x h
theorem spI_row (p : Int) (ns : List Int) : spI (rowT p ns) = decI p.toNat :: ns.map fun n => decI n.toNat := by
  unfold rowT
  rw [numI_jo]
  exact spI_join (decI_free (by decide) _) fun q hq => by
    obtain ⟨n, _, rfl⟩ := List.mem_map.1 hq
    exact decI_free (by decide) _
theorem map_decI {ns ms : List Int} (h1 : ∀ n ∈ ns, 0 ≤ n) (h2 : ∀ n ∈ ms, 0 ≤ n) (h : (ns.map fun n => decI n.toNat) = ms.map fun n => decI n.toNat) : ns = ms := by
  induction ns generalizing ms with
  | nil => cases ms with | nil => rfl | cons m ms => cases h
  | cons n ns ih =>
    cases ms with
    | nil => cases h
    | cons m ms =>
      simp only [List.map_cons, List.cons.injEq] at h
      have e := decI_inj h.1
      have := h1 n (by simp)
      have := h2 m (by simp)
      rw [show n = m by omega, ih (fun q hq => h1 q (List.mem_cons_of_mem _ hq)) (fun q hq => h2 q (List.mem_cons_of_mem _ hq)) h.2]
/-- A row that may be. -/
structure RGd (p : Int) (ns : List Int) : Prop where
  p : U8 p
  len : ns.length = 6
  n : ∀ x ∈ ns, U64 x
  pos : 0 < ns.getD 0 0
  o : ns.getD 1 0 ≤ ns.getD 0 0
  t : ns.getD 2 0 ≤ ns.getD 0 0
  m : ns.getD 5 0 ≤ ns.getD 0 0
theorem rowT_inj {p q : Int} {ns ms : List Int} (h1 : RGd p ns) (h2 : RGd q ms) (h : rowT p ns = rowT q ms) : p = q ∧ ns = ms := by
  have e := congrArg spI h
  rw [spI_row, spI_row] at e
  simp only [List.cons.injEq] at e
  have e1 := decI_inj e.1
  have a := h1.p
  have b := h2.p
  unfold U8 at a b
  refine ⟨by omega, map_decI (fun n hn => (h1.n n hn).1) (fun n hn => (h2.n n hn).1) e.2⟩
end Go.Proofs.YtbgimajbehodnaaGreatDoor
