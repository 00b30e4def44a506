/- Policies: rules, what fits, what decides: plain laws. -/
import Derived.Test.YtnlibngncicobaaWireP
namespace Go.Proofs.Ytnlibngncicobaa
open Go Go.RowKit
structure Ru where
  acc : Int
  fr : Int
  tt : Int
  dO : Int
  ag : Bool
def Ru.cells (r : Ru) : List Value := [.int .u8 r.acc, .int .u16 r.fr, .int .u16 r.tt, .int .u8 r.dO, .bool r.ag]
structure Ru.ok (r : Ru) : Prop where
  acc : 0 ≤ r.acc ∧ r.acc < 256
  fr : 0 ≤ r.fr ∧ r.fr < 65536
  tt : 0 ≤ r.tt ∧ r.tt < 65536
  dO : 0 ≤ r.dO ∧ r.dO < 256
def Ru.zero : Ru := ⟨0, 0, 0, 0, false⟩
theorem Ru.len (r : Ru) : r.cells.length = 5 := rfl
theorem Ru.ones (r : Ru) : ∀ v ∈ r.cells, v.oneCell' = true := by
  intro v hv
  simp [Ru.cells] at hv
  rcases hv with rfl | rfl | rfl | rfl | rfl <;> rfl
theorem Ru.inj {r s : Ru} (h : r.cells = s.cells) : r = s := by
  cases r; cases s
  simp [Ru.cells] at h
  obtain ⟨h1, h2, h3, h4, h5⟩ := h
  subst h1 h2 h3 h4 h5
  rfl
instance : DecidableEq Ru := fun a b =>
  if h : a.acc = b.acc ∧ a.fr = b.fr ∧ a.tt = b.tt ∧ a.dO = b.dO ∧ a.ag = b.ag then
    isTrue (by
      obtain ⟨h1, h2, h3, h4, h5⟩ := h
      cases a
      cases b
      simp_all)
  else isFalse (fun e => h (by rw [e]; exact ⟨rfl, rfl, rfl, rfl, rfl⟩))
def telU (d : Int) : Bool := decide (1 ≤ d) && decide (d ≤ 3)
def mayU (r : Ru) : Bool := (decide (r.acc < 8) || decide (r.acc = 255)) && decide (r.fr < 1440) && decide (r.tt < 1440) && telU r.dO
def wiU (r : Ru) (t : Int) : Bool := if r.fr < r.tt then decide (r.fr ≤ t) && decide (t < r.tt) else if r.tt < r.fr then decide (r.fr ≤ t) || decide (t < r.tt) else true
def fitU (r : Ru) (a now : Int) : Bool := (decide (r.acc = 255) || decide (r.acc = a)) && wiU r (now % 1440)
/-- The place of the first one: none is -1. -/
def atI : Option Nat → Int
  | none => -1
  | some i => (i : Int)
def firU (l : List Ru) (a now : Int) : Option Nat := l.findIdx? fun r => fitU r a now
theorem fir_lt {l : List Ru} {a now : Int} {i : Nat} (h : firU l a now = some i) : i < l.length := (List.findIdx?_eq_some_iff_getElem.1 h).1
/-- Is a call decided by the i-th? -/
def decAt (l : List Ru) (t : Int) (i : Nat) : Bool := (List.range 8).any fun a => decide (firU l (a : Int) t = some i)
def decU (l : List Ru) (i : Nat) : Bool := (List.range 1440).any fun t => decAt l (t : Int) i
def decE (l : List Ru) (E : List Int) (i : Nat) : Bool := E.any fun t => decAt l t i
def edgU (l : List Ru) : List Int := 0 :: l.flatMap fun r => [r.fr, r.tt]
/-- The last of some numbers that is not above t. -/
theorem last_le (E : List Int) (t : Int) (h0 : 0 ∈ E) (ht : 0 ≤ t) : ∃ e ∈ E, e ≤ t ∧ ∀ x ∈ E, x ≤ t → x ≤ e := by
  have key : ∀ F : List Int, (∀ x ∈ F, x ∈ E) → (∃ e ∈ E, e ≤ t ∧ ∀ x ∈ F, x ≤ t → x ≤ e) := by
    intro F
    induction F with
    | nil => intro _; exact ⟨0, h0, ht, fun x hx => nomatch hx⟩
    | cons y F ih =>
      intro hF
      obtain ⟨e, he, het, hm⟩ := ih (fun x hx => hF x (by simp [hx]))
      by_cases hy : y ≤ t ∧ e < y
      · refine ⟨y, hF y (by simp), hy.1, fun x hx hxt => ?_⟩
        rcases List.mem_cons.1 hx with rfl | hx
        · exact Int.le_refl _
        · have := hm x hx hxt; omega
      · refine ⟨e, he, het, fun x hx hxt => ?_⟩
        rcases List.mem_cons.1 hx with rfl | hx
        · omega
        · exact hm x hx hxt
  exact key E fun _ h => h
theorem wi_edge {r : Ru} {t e : Int} (h1 : r.fr ≤ t ↔ r.fr ≤ e) (h2 : r.tt ≤ t ↔ r.tt ≤ e) : wiU r t = wiU r e := by
  unfold wiU
  have e1 : decide (r.fr ≤ t) = decide (r.fr ≤ e) := decide_eq_decide.2 h1
  have e2 : decide (t < r.tt) = decide (e < r.tt) := decide_eq_decide.2 (by omega)
  rw [e1, e2]
theorem fir_congr {l : List Ru} {a t e : Int} (h : ∀ r ∈ l, wiU r (t % 1440) = wiU r (e % 1440)) : firU l a t = firU l a e := by
  unfold firU
  induction l with
  | nil => rfl
  | cons r l ih =>
    have h1 : fitU r a t = fitU r a e := by unfold fitU; rw [h r (by simp)]
    rw [List.findIdx?_cons, List.findIdx?_cons, h1, ih (fun s hs => h s (by simp [hs]))]
theorem dec_edges {l : List Ru} {E : List Int} (hl : ∀ r ∈ l, r.ok ∧ mayU r = true) (hE : ∀ x, x ∈ E ↔ x ∈ edgU l) (i : Nat) : decE l E i = decU l i := by
  have hin : ∀ x ∈ E, 0 ≤ x ∧ x < 1440 := by
    intro x hx
    have := (hE x).1 hx
    unfold edgU at this
    rcases List.mem_cons.1 this with rfl | h
    · omega
    · obtain ⟨r, hr, h⟩ := List.mem_flatMap.1 h
      obtain ⟨h1, h2⟩ := hl r hr
      unfold mayU at h2
      simp only [Bool.and_eq_true, decide_eq_true_eq] at h2
      simp only [List.mem_cons, List.not_mem_nil, or_false] at h
      rcases h with rfl | rfl
      · exact ⟨h1.fr.1, h2.1.1.2⟩
      · exact ⟨h1.tt.1, h2.1.2⟩
  rw [Bool.eq_iff_iff]
  unfold decE decU
  constructor
  · intro h
    obtain ⟨x, hx, hd⟩ := List.any_eq_true.1 h
    have := hin x hx
    refine List.any_eq_true.2 ⟨x.toNat, List.mem_range.2 (by omega), ?_⟩
    rw [Int.toNat_of_nonneg this.1]
    exact hd
  · intro h
    obtain ⟨t, ht, hd⟩ := List.any_eq_true.1 h
    have ht := List.mem_range.1 ht
    obtain ⟨e, he, het, hm⟩ := last_le E (t : Int) ((hE 0).2 (by unfold edgU; simp)) (by omega)
    refine List.any_eq_true.2 ⟨e, he, ?_⟩
    have hei := hin e he
    have hc : ∀ a, firU l a (t : Int) = firU l a e := fun a => fir_congr fun r hr => by
      rw [Int.emod_eq_of_lt (by omega) (by omega), Int.emod_eq_of_lt hei.1 hei.2]
      have m1 : r.fr ∈ E := (hE _).2 (by unfold edgU; exact List.mem_cons_of_mem _ (List.mem_flatMap.2 ⟨r, hr, by simp⟩))
      have m2 : r.tt ∈ E := (hE _).2 (by unfold edgU; exact List.mem_cons_of_mem _ (List.mem_flatMap.2 ⟨r, hr, by simp⟩))
      exact wi_edge ⟨fun h => hm _ m1 h, fun h => Int.le_trans h het⟩ ⟨fun h => hm _ m2 h, fun h => Int.le_trans h het⟩
    unfold decAt at hd ⊢
    obtain ⟨a, ha, h⟩ := List.any_eq_true.1 hd
    exact List.any_eq_true.2 ⟨a, ha, by rw [← hc]; exact h⟩
/-- The places of those that decide nothing; those that are left without them. -/
def idleU (l : List Ru) : List Nat := (List.range l.length).filter fun i => !decU l i
/-- A policy. -/
structure Po where
  df : Int
  rl : List Ru
  la : List Int
  no : List Bool
structure Po.ok (p : Po) : Prop where
  df : 1 ≤ p.df ∧ p.df ≤ 3
  rl : ∀ r ∈ p.rl, r.ok ∧ mayU r = true
  len : p.rl.length ≤ 64
  la : p.la.length = 8
  lar : ∀ x ∈ p.la, 0 ≤ x ∧ x < 18446744073709551616
  no : p.no.length = 8
def Po.new (d : Int) : Po := ⟨d, [], List.replicate 8 0, List.replicate 8 false⟩
def insU (l : List Ru) (i : Nat) (r : Ru) : List Ru := l.take i ++ r :: l.drop i
def delU (l : List Ru) (i : Nat) : List Ru := l.take i ++ l.drop (i + 1)
def insE (p : Po) (z : Int) (r : Ru) : Int := if !mayU r then 2 else if z < 0 ∨ (p.rl.length : Int) < z then 4 else if p.rl.length = 64 then 7 else 0
def agU (p : Po) (r : Ru) (a now : Int) : Bool := r.ag && decide (a < 8) && p.no.getD a.toNat false && decide (p.la.getD a.toNat 0 ≤ now) && decide (now - p.la.getD a.toNat 0 ≤ 180)
def askU (p : Po) (a now : Int) : Int × Int := match firU p.rl a now with
  | none => (p.df, -1)
  | some i => ((if agU p (p.rl.getD i Ru.zero) a now then 1 else (p.rl.getD i Ru.zero).dO), (i : Int))
def noteU (p : Po) (a now : Int) : Po := if a < 8 then { p with no := p.no.set a.toNat true, la := p.la.set a.toNat now } else p
end Go.Proofs.Ytnlibngncicobaa

namespace Go.Proofs.Ytnlibngncicobaa
open Go Go.RowKit
/-- Those whose places are kept, from a place on. -/
def keepQ {α : Type} (q : Nat → Bool) : Nat → List α → List α
  | _, [] => []
  | n, x :: l => if q n then x :: keepQ q (n + 1) l else keepQ q (n + 1) l
/-- How many of the first i are kept. -/
def rankQ (q : Nat → Bool) (n i : Nat) : Nat := ((List.range i).filter fun j => q (n + j)).length
theorem rankQ_succ (q : Nat → Bool) (n i : Nat) : rankQ q n (i + 1) = (if q n then 1 else 0) + rankQ q (n + 1) i := by
  unfold rankQ
  rw [List.range_succ_eq_map, List.filter_cons, List.filter_map, Nat.add_zero]
  have e : ((fun j => q (n + j)) ∘ Nat.succ) = fun j => q (n + 1 + j) := by
    funext j
    show q (n + (j + 1)) = _
    congr 1
    omega
  rw [e]
  split
  · rw [List.length_cons, List.length_map]; omega
  · rw [List.length_map]; omega
theorem keep_snoc {α : Type} (q : Nat → Bool) : ∀ (l : List α) (n : Nat) (x : α), keepQ q n (l ++ [x]) = keepQ q n l ++ (if q (n + l.length) then [x] else [])
  | [], n, x => by
    show (if q n then [x] else []) = _
    rw [List.length_nil, Nat.add_zero]
    rfl
  | y :: l, n, x => by
    have ih := keep_snoc q l (n + 1) x
    rw [show n + 1 + l.length = n + (y :: l).length by rw [List.length_cons]; omega] at ih
    show (if q n then y :: keepQ q (n + 1) (l ++ [x]) else keepQ q (n + 1) (l ++ [x])) = (if q n then y :: keepQ q (n + 1) l else keepQ q (n + 1) l) ++ _
    rw [ih]
    split <;> rfl
theorem keep_len {α : Type} (q : Nat → Bool) : ∀ (l : List α) (n : Nat), (keepQ q n l).length = rankQ q n l.length
  | [], n => rfl
  | y :: l, n => by
    rw [List.length_cons, rankQ_succ, ← keep_len q l (n + 1)]
    show (if q n then y :: keepQ q (n + 1) l else keepQ q (n + 1) l).length = _
    by_cases h : q n = true
    · rw [if_pos h, if_pos h, List.length_cons]; omega
    · rw [if_neg h, if_neg h]; omega
theorem keep_mem {α : Type} (q : Nat → Bool) : ∀ (l : List α) (n : Nat) (x : α), x ∈ keepQ q n l → x ∈ l
  | y :: l, n, x, h => by
    unfold keepQ at h
    split at h
    · rcases List.mem_cons.1 h with rfl | h
      · exact List.mem_cons_self ..
      · exact List.mem_cons_of_mem _ (keep_mem q l _ x h)
    · exact List.mem_cons_of_mem _ (keep_mem q l _ x h)
/-- Those that are left. -/
def keptU (l : List Ru) : List Ru := keepQ (decU l) 0 l
/-- Places taken out, the last one first. -/
def delL (l : List Ru) (g : List Nat) : List Ru := g.foldr (fun i acc => delU acc i) l
theorem delU_snoc {acc : List Ru} {x : Ru} {i : Nat} (h : i < acc.length) : delU (acc ++ [x]) i = delU acc i ++ [x] := by
  unfold delU
  rw [List.take_append_of_le_length (by omega), List.drop_append_of_le_length (by omega), List.append_assoc]
theorem delU_len {acc : List Ru} {i : Nat} (h : i < acc.length) : (delU acc i).length + 1 = acc.length := by
  unfold delU
  rw [List.length_append, List.length_take, List.length_drop]
  omega
theorem delL_snoc {l : List Ru} {x : Ru} : ∀ {g : List Nat}, g.Pairwise (· < ·) → (∀ i ∈ g, i < l.length) → delL (l ++ [x]) g = delL l g ++ [x] ∧ ∀ k, (∀ j ∈ g, k < j) → k < l.length → k < (delL l g).length
  | [], _, _ => ⟨rfl, fun k _ h => h⟩
  | i :: g, hs, hl => by
    obtain ⟨h1, h2⟩ := List.pairwise_cons.1 hs
    obtain ⟨e, hk⟩ := delL_snoc (x := x) h2 (fun j hj => hl j (by simp [hj]))
    have hi := hk i h1 (hl i (by simp))
    have hd := delU_len hi
    refine ⟨?_, fun k hkj hkl => ?_⟩
    · show delU (delL (l ++ [x]) g) i = delU (delL l g) i ++ [x]
      rw [e, delU_snoc hi]
    · have := hkj i (by simp)
      show k < (delU (delL l g) i).length
      omega
theorem delL_keep (q : Nat → Bool) (l : List Ru) : delL l ((List.range l.length).filter fun i => !q i) = keepQ q 0 l := by
  refine snoc_ind (p := fun l : List Ru => delL l ((List.range l.length).filter fun i => !q i) = keepQ q 0 l) rfl (fun l x ih => ?_) l
  rw [List.length_append, List.length_singleton, List.range_succ, List.filter_append, keep_snoc, Nat.zero_add, ← ih]
  have hs : ((List.range l.length).filter fun i => !q i).Pairwise (· < ·) := List.Pairwise.filter _ List.pairwise_lt_range
  have hm : ∀ i ∈ (List.range l.length).filter fun i => !q i, i < l.length := fun i hi => List.mem_range.1 (List.mem_filter.1 hi).1
  obtain ⟨e, _⟩ := delL_snoc (x := x) hs hm
  by_cases h : q l.length = true
  · rw [if_pos h]
    simp only [List.filter_cons, h, List.filter_nil]
    simpa using e
  · rw [if_neg h, List.append_nil]
    have h' : q l.length = false := by simpa using h
    simp only [List.filter_cons, h', List.filter_nil]
    unfold delL
    rw [List.foldr_append]
    congr 1
    show delU (l ++ [x]) l.length = l
    unfold delU
    rw [List.take_left' rfl, List.drop_of_length_le (by simp), List.append_nil]
theorem del_idle (l : List Ru) : delL l (idleU l) = keptU l := delL_keep (decU l) l
end Go.Proofs.Ytnlibngncicobaa
