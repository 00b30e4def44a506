/- Policies: rules, what fits, what decides: plain laws. -/
import Derived.Test.YtnlibngncicobaaWireP
namespace Go.Proofs.Ytnlibngncicobaa
open Go Go.RowKit
structure Ru where
  acc : Int
  fr : Int
  tt : Int
  dO : Int
  ag : Bool
def Ru.cells (r : Ru) : List Value := [.int .u8 r.acc, .int .u16 r.fr, .int .u16 r.tt, .int .u8 r.dO, .bool r.ag]
structure Ru.ok (r : Ru) : Prop where
  acc : 0 ≤ r.acc ∧ r.acc < 256
  fr : 0 ≤ r.fr ∧ r.fr < 65536
  tt : 0 ≤ r.tt ∧ r.tt < 65536
  dO : 0 ≤ r.dO ∧ r.dO < 256
def Ru.zero : Ru := ⟨0, 0, 0, 0, false⟩
theorem Ru.zero_ok : Ru.zero.ok := by constructor <;> (show (0 : Int) ≤ 0 ∧ (0 : Int) < _; omega)
theorem Ru.len (r : Ru) : r.cells.length = 5 := rfl
theorem Ru.ones (r : Ru) : ∀ v ∈ r.cells, v.oneCell' = true := by
  intro v hv
  simp [Ru.cells] at hv
  rcases hv with rfl | rfl | rfl | rfl | rfl <;> rfl
theorem Ru.inj {r s : Ru} (h : r.cells = s.cells) : r = s := by
  cases r; cases s
  simp [Ru.cells] at h
  obtain ⟨h1, h2, h3, h4, h5⟩ := h
  subst h1 h2 h3 h4 h5
  rfl
instance : DecidableEq Ru := fun a b =>
  if h : a.acc = b.acc ∧ a.fr = b.fr ∧ a.tt = b.tt ∧ a.dO = b.dO ∧ a.ag = b.ag then
    isTrue (by
      obtain ⟨h1, h2, h3, h4, h5⟩ := h
      cases a
      cases b
      simp_all)
  else isFalse (fun e => h (by rw [e]; exact ⟨rfl, rfl, rfl, rfl, rfl⟩))
def telU (d : Int) : Bool := decide (1 ≤ d) && decide (d ≤ 3)
def mayU (r : Ru) : Bool := (decide (r.acc < 8) || decide (r.acc = 255)) && decide (r.fr < 1440) && decide (r.tt < 1440) && telU r.dO
def wiU (r : Ru) (t : Int) : Bool := if r.fr < r.tt then decide (r.fr ≤ t) && decide (t < r.tt) else if r.tt < r.fr then decide (r.fr ≤ t) || decide (t < r.tt) else true
def fitU (r : Ru) (a now : Int) : Bool := (decide (r.acc = 255) || decide (r.acc = a)) && wiU r (now % 1440)
/-- The place of the first one: none is -1. -/
def atI : Option Nat → Int
  | none => -1
  | some i => (i : Int)
def firU (l : List Ru) (a now : Int) : Option Nat := l.findIdx? fun r => fitU r a now
theorem fir_lt {l : List Ru} {a now : Int} {i : Nat} (h : firU l a now = some i) : i < l.length := (List.findIdx?_eq_some_iff_getElem.1 h).1
/-- Is a call decided by the i-th? -/
def decAt (l : List Ru) (t : Int) (i : Nat) : Bool := (List.range 8).any fun a => decide (firU l (a : Int) t = some i)
def decU (l : List Ru) (i : Nat) : Bool := (List.range 1440).any fun t => decAt l (t : Int) i
def decE (l : List Ru) (E : List Int) (i : Nat) : Bool := E.any fun t => decAt l t i
def edgU (l : List Ru) : List Int := 0 :: l.flatMap fun r => [r.fr, r.tt]
/-- The last of some numbers that is not above t. -/
theorem last_le (E : List Int) (t : Int) (h0 : 0 ∈ E) (ht : 0 ≤ t) : ∃ e ∈ E, e ≤ t ∧ ∀ x ∈ E, x ≤ t → x ≤ e := by
  have key : ∀ F : List Int, (∀ x ∈ F, x ∈ E) → (∃ e ∈ E, e ≤ t ∧ ∀ x ∈ F, x ≤ t → x ≤ e) := by
    intro F
    induction F with
    | nil => intro _; exact ⟨0, h0, ht, fun x hx => nomatch hx⟩
    | cons y F ih =>
      intro hF
      obtain ⟨e, he, het, hm⟩ := ih (fun x hx => hF x (by simp [hx]))
      by_cases hy : y ≤ t ∧ e < y
      · refine ⟨y, hF y (by simp), hy.1, fun x hx hxt => ?_⟩
        rcases List.mem_cons.1 hx with rfl | hx
        · exact Int.le_refl _
        · have := hm x hx hxt; omega
      · refine ⟨e, he, het, fun x hx hxt => ?_⟩
        rcases List.mem_cons.1 hx with rfl | hx
        · omega
        · exact hm x hx hxt
  exact key E fun _ h => h
theorem wi_edge {r : Ru} {t e : Int} (h1 : r.fr ≤ t ↔ r.fr ≤ e) (h2 : r.tt ≤ t ↔ r.tt ≤ e) : wiU r t = wiU r e := by
  unfold wiU
  have e1 : decide (r.fr ≤ t) = decide (r.fr ≤ e) := decide_eq_decide.2 h1
  have e2 : decide (t < r.tt) = decide (e < r.tt) := decide_eq_decide.2 (by omega)
  rw [e1, e2]
theorem fir_congr {l : List Ru} {a t e : Int} (h : ∀ r ∈ l, wiU r (t % 1440) = wiU r (e % 1440)) : firU l a t = firU l a e := by
  unfold firU
  induction l with
  | nil => rfl
  | cons r l ih =>
    have h1 : fitU r a t = fitU r a e := by unfold fitU; rw [h r (by simp)]
    rw [List.findIdx?_cons, List.findIdx?_cons, h1, ih (fun s hs => h s (by simp [hs]))]
theorem dec_edges {l : List Ru} {E : List Int} (hl : ∀ r ∈ l, r.ok ∧ mayU r = true) (hE : ∀ x, x ∈ E ↔ x ∈ edgU l) (i : Nat) : decE l E i = decU l i := by
  have hin : ∀ x ∈ E, 0 ≤ x ∧ x < 1440 := by
    intro x hx
    have := (hE x).1 hx
    unfold edgU at this
    rcases List.mem_cons.1 this with rfl | h
    · omega
    · obtain ⟨r, hr, h⟩ := List.mem_flatMap.1 h
      obtain ⟨h1, h2⟩ := hl r hr
      unfold mayU at h2
      simp only [Bool.and_eq_true, decide_eq_true_eq] at h2
      simp only [List.mem_cons, List.not_mem_nil, or_false] at h
      rcases h with rfl | rfl
      · exact ⟨h1.fr.1, h2.1.1.2⟩
      · exact ⟨h1.tt.1, h2.1.2⟩
  rw [Bool.eq_iff_iff]
  unfold decE decU
  constructor
  · intro h
    obtain ⟨x, hx, hd⟩ := List.any_eq_true.1 h
    have := hin x hx
    refine List.any_eq_true.2 ⟨x.toNat, List.mem_range.2 (by omega), ?_⟩
    rw [Int.toNat_of_nonneg this.1]
    exact hd
  · intro h
    obtain ⟨t, ht, hd⟩ := List.any_eq_true.1 h
    have ht := List.mem_range.1 ht
    obtain ⟨e, he, het, hm⟩ := last_le E (t : Int) ((hE 0).2 (by unfold edgU; simp)) (by omega)
    refine List.any_eq_true.2 ⟨e, he, ?_⟩
    have hei := hin e he
    have hc : ∀ a, firU l a (t : Int) = firU l a e := fun a => fir_congr fun r hr => by
      rw [Int.emod_eq_of_lt (by omega) (by omega), Int.emod_eq_of_lt hei.1 hei.2]
      have m1 : r.fr ∈ E := (hE _).2 (by unfold edgU; exact List.mem_cons_of_mem _ (List.mem_flatMap.2 ⟨r, hr, by simp⟩))
      have m2 : r.tt ∈ E := (hE _).2 (by unfold edgU; exact List.mem_cons_of_mem _ (List.mem_flatMap.2 ⟨r, hr, by simp⟩))
      exact wi_edge ⟨fun h => hm _ m1 h, fun h => Int.le_trans h het⟩ ⟨fun h => hm _ m2 h, fun h => Int.le_trans h het⟩
    unfold decAt at hd ⊢
    obtain ⟨a, ha, h⟩ := List.any_eq_true.1 hd
    exact List.any_eq_true.2 ⟨a, ha, by rw [← hc]; exact h⟩
/-- The places of those that decide nothing; those that are left without them. -/
def idleU (l : List Ru) : List Nat := (List.range l.length).filter fun i => !decU l i
/-- A policy. -/
structure Po where
  df : Int
  rl : List Ru
  la : List Int
  no : List Bool
structure Po.ok (p : Po) : Prop where
  df : 1 ≤ p.df ∧ p.df ≤ 3
  rl : ∀ r ∈ p.rl, r.ok ∧ mayU r = true
  len : p.rl.length ≤ 64
  la : p.la.length = 8
  lar : ∀ x ∈ p.la, 0 ≤ x ∧ x < 18446744073709551616
  no : p.no.length = 8
def Po.new (d : Int) : Po := ⟨d, [], List.replicate 8 0, List.replicate 8 false⟩
def insU (l : List Ru) (i : Nat) (r : Ru) : List Ru := l.take i ++ r :: l.drop i
def delU (l : List Ru) (i : Nat) : List Ru := l.take i ++ l.drop (i + 1)
def insE (p : Po) (z : Int) (r : Ru) : Int := if !mayU r then 2 else if z < 0 ∨ (p.rl.length : Int) < z then 4 else if p.rl.length = 64 then 7 else 0
def agU (p : Po) (r : Ru) (a now : Int) : Bool := r.ag && decide (a < 8) && p.no.getD a.toNat false && decide (p.la.getD a.toNat 0 ≤ now) && decide (now - p.la.getD a.toNat 0 ≤ 180)
def askU (p : Po) (a now : Int) : Int × Int := match firU p.rl a now with
  | none => (p.df, -1)
  | some i => ((if agU p (p.rl.getD i Ru.zero) a now then 1 else (p.rl.getD i Ru.zero).dO), (i : Int))
def noteU (p : Po) (a now : Int) : Po := if a < 8 then { p with no := p.no.set a.toNat true, la := p.la.set a.toNat now } else p
end Go.Proofs.Ytnlibngncicobaa

namespace Go.Proofs.Ytnlibngncicobaa
open Go Go.RowKit
/-- Those whose places are kept, from a place on. -/
def keepQ {α : Type} (q : Nat → Bool) : Nat → List α → List α
  | _, [] => []
  | n, x :: l => if q n then x :: keepQ q (n + 1) l else keepQ q (n + 1) l
/-- How many of the first i are kept. -/
def rankQ (q : Nat → Bool) (n i : Nat) : Nat := ((List.range i).filter fun j => q (n + j)).length
theorem rankQ_succ (q : Nat → Bool) (n i : Nat) : rankQ q n (i + 1) = (if q n then 1 else 0) + rankQ q (n + 1) i := by
  unfold rankQ
  rw [List.range_succ_eq_map, List.filter_cons, List.filter_map, Nat.add_zero]
  have e : ((fun j => q (n + j)) ∘ Nat.succ) = fun j => q (n + 1 + j) := by
    funext j
    show q (n + (j + 1)) = _
    congr 1
    omega
  rw [e]
  split
  · rw [List.length_cons, List.length_map]; omega
  · rw [List.length_map]; omega
theorem keep_snoc {α : Type} (q : Nat → Bool) : ∀ (l : List α) (n : Nat) (x : α), keepQ q n (l ++ [x]) = keepQ q n l ++ (if q (n + l.length) then [x] else [])
  | [], n, x => by
    show (if q n then [x] else []) = _
    rw [List.length_nil, Nat.add_zero]
    rfl
  | y :: l, n, x => by
    have ih := keep_snoc q l (n + 1) x
    rw [show n + 1 + l.length = n + (y :: l).length by rw [List.length_cons]; omega] at ih
    show (if q n then y :: keepQ q (n + 1) (l ++ [x]) else keepQ q (n + 1) (l ++ [x])) = (if q n then y :: keepQ q (n + 1) l else keepQ q (n + 1) l) ++ _
    rw [ih]
    split <;> rfl
theorem keep_len {α : Type} (q : Nat → Bool) : ∀ (l : List α) (n : Nat), (keepQ q n l).length = rankQ q n l.length
  | [], n => rfl
  | y :: l, n => by
    rw [List.length_cons, rankQ_succ, ← keep_len q l (n + 1)]
    show (if q n then y :: keepQ q (n + 1) l else keepQ q (n + 1) l).length = _
    by_cases h : q n = true
    · rw [if_pos h, if_pos h, List.length_cons]; omega
    · rw [if_neg h, if_neg h]; omega
theorem keep_mem {α : Type} (q : Nat → Bool) : ∀ (l : List α) (n : Nat) (x : α), x ∈ keepQ q n l → x ∈ l
  | y :: l, n, x, h => by
    unfold keepQ at h
    split at h
    · rcases List.mem_cons.1 h with rfl | h
      · exact List.mem_cons_self ..
      · exact List.mem_cons_of_mem _ (keep_mem q l _ x h)
    · exact List.mem_cons_of_mem _ (keep_mem q l _ x h)
theorem keep_none {α : Type} {p : α → Bool} (q : Nat → Bool) {l : List α} {n : Nat} (h : l.findIdx? p = none) : (keepQ q n l).findIdx? p = none :=
  List.findIdx?_eq_none_iff.2 fun x hx => List.findIdx?_eq_none_iff.1 h x (keep_mem q l n x hx)
theorem keep_some {α : Type} {p : α → Bool} (q : Nat → Bool) : ∀ {l : List α} {n i : Nat}, l.findIdx? p = some i → q (n + i) = true → (keepQ q n l).findIdx? p = some (rankQ q n i) ∧ (keepQ q n l)[rankQ q n i]? = l[i]?
  | [], _, _, h, _ => by simp at h
  | y :: l, n, i, h, hq => by
    rw [List.findIdx?_cons] at h
    by_cases hp : p y = true
    · rw [if_pos hp] at h
      cases h
      unfold keepQ
      rw [Nat.add_zero] at hq
      rw [if_pos hq, List.findIdx?_cons, if_pos hp]
      exact ⟨rfl, rfl⟩
    · rw [if_neg hp] at h
      obtain ⟨j, hj, rfl⟩ := Option.map_eq_some_iff.1 h
      obtain ⟨h1, h2⟩ := keep_some q (l := l) (n := n + 1) hj (by rw [show n + 1 + j = n + (j + 1) by omega]; exact hq)
      rw [rankQ_succ]
      unfold keepQ
      by_cases hn : q n = true
      · rw [if_pos hn, if_pos hn, List.findIdx?_cons, if_neg hp, h1, Nat.add_comm 1]
        exact ⟨rfl, by rw [List.getElem?_cons_succ, h2, List.getElem?_cons_succ]⟩
      · rw [if_neg hn, if_neg hn, Nat.zero_add, List.getElem?_cons_succ]
        exact ⟨h1, h2⟩
theorem rank_onto (q : Nat → Bool) : ∀ (m n j : Nat), j < rankQ q n m → ∃ i, i < m ∧ q (n + i) = true ∧ rankQ q n i = j
  | 0, n, j, h => by simp [rankQ] at h
  | m + 1, n, j, h => by
    rw [rankQ_succ] at h
    by_cases hn : q n = true
    · rw [if_pos hn] at h
      cases j with
      | zero => exact ⟨0, by omega, by rw [Nat.add_zero]; exact hn, rfl⟩
      | succ j =>
        obtain ⟨i, h1, h2, h3⟩ := rank_onto q m (n + 1) j (by omega)
        exact ⟨i + 1, by omega, by rw [show n + (i + 1) = n + 1 + i by omega]; exact h2, by rw [rankQ_succ, if_pos hn, h3]; omega⟩
    · rw [if_neg hn] at h
      obtain ⟨i, h1, h2, h3⟩ := rank_onto q m (n + 1) j (by omega)
      exact ⟨i + 1, by omega, by rw [show n + (i + 1) = n + 1 + i by omega]; exact h2, by rw [rankQ_succ, if_neg hn, h3]; omega⟩
/-- Those that are left. -/
def keptU (l : List Ru) : List Ru := keepQ (decU l) 0 l
theorem dec_at {l : List Ru} {i : Nat} (h : decU l i = true) : ∃ t a : Nat, t < 1440 ∧ a < 8 ∧ firU l (a : Int) (t : Int) = some i := by
  unfold decU decAt at h
  obtain ⟨t, ht, h⟩ := List.any_eq_true.1 h
  obtain ⟨a, ha, h⟩ := List.any_eq_true.1 h
  exact ⟨t, a, List.mem_range.1 ht, List.mem_range.1 ha, by simpa using h⟩
theorem dec_of {l : List Ru} {i t a : Nat} (ht : t < 1440) (ha : a < 8) (h : firU l (a : Int) (t : Int) = some i) : decU l i = true := by
  unfold decU decAt
  exact List.any_eq_true.2 ⟨t, List.mem_range.2 ht, List.any_eq_true.2 ⟨a, List.mem_range.2 ha, by simpa using h⟩⟩
theorem fir_mod (l : List Ru) (a now : Int) : firU l a now = firU l a (now % 1440) := fir_congr fun r _ => by rw [Int.emod_emod_of_dvd now (Int.dvd_refl 1440)]
/-- Some call is told of in what is left as in all. -/
theorem kept_fir {l : List Ru} {a now : Int} (ha : 0 ≤ a ∧ a < 8) : (firU l a now = none ∧ firU (keptU l) a now = none) ∨ ∃ i j, firU l a now = some i ∧ firU (keptU l) a now = some j ∧ (keptU l)[j]? = l[i]? := by
  cases h : firU l a now with
  | none => exact .inl ⟨rfl, keep_none _ h⟩
  | some i =>
    have hd : decU l i = true := by
      rw [fir_mod] at h
      have h1 := Int.emod_nonneg now (show (1440 : Int) ≠ 0 by omega)
      have h2 := Int.emod_lt_of_pos now (show (0 : Int) < 1440 by omega)
      refine dec_of (t := (now % 1440).toNat) (a := a.toNat) (by omega) (by omega) ?_
      rw [Int.toNat_of_nonneg ha.1, Int.toNat_of_nonneg h1]
      exact h
    obtain ⟨h1, h2⟩ := keep_some (decU l) (n := 0) h (by rw [Nat.zero_add]; exact hd)
    exact .inr ⟨i, _, rfl, h1, h2⟩
theorem kept_idle (l : List Ru) : idleU (keptU l) = [] := by
  unfold idleU
  refine List.filter_eq_nil_iff.2 fun j hj => ?_
  have hj := List.mem_range.1 hj
  unfold keptU at hj
  rw [keep_len] at hj
  obtain ⟨i, h1, h2, h3⟩ := rank_onto (decU l) _ 0 j hj
  rw [Nat.zero_add] at h2
  obtain ⟨t, a, ht, ha, hf⟩ := dec_at h2
  obtain ⟨h4, _⟩ := keep_some (decU l) (n := 0) hf (by rw [Nat.zero_add]; exact h2)
  rw [h3] at h4
  have : decU (keptU l) j = true := dec_of ht ha h4
  simp [this]
theorem delU_len {acc : List Ru} {i : Nat} (h : i < acc.length) : (delU acc i).length + 1 = acc.length := by
  unfold delU
  rw [List.length_append, List.length_take, List.length_drop]
  omega
end Go.Proofs.Ytnlibngncicobaa
