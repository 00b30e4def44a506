/- Slices that are read, slices that are owned; append, make, copy: general lemmas of this claim's own, about no program in particular. -/
import Derived.Test.YtcplbkbimpiioaaGreatDoorLibA
import Derived.Laws.CopyOwn
import Derived.Maps.AppendAt
namespace Go.Proofs.YtcplbkbimpiioaaGreatDoor
open Go Go.RowKit

/-- A slice value that can be read: n elements of size cells each, its cells cs. -/
def Rd (w : World) (size : Nat) (v : Value) (n : Nat) (cs : List Value) : Prop :=
  cs.length = n * size ∧ ((v = .slice none 0 0 ∧ n = 0) ∨ ∃ (a : Addr) (cap : Nat), v = .slice (some a) n cap ∧ n ≤ cap ∧ cap ≤ maxLen ∧ ∀ j u, cs[j]? = some u → a.spot = none ∧ w.cell? ⟨a.block, a.off + j, none⟩ = some u)

/-- A slice value over a block of cells that may be written. -/
def Sown (w : World) (e : TypeId) (size : Nat) (v : Value) (n : Nat) (cs : List Value) : Prop :=
  cs.length = n * size ∧ ((v = .slice none 0 0 ∧ n = 0) ∨ ∃ b off cap cur, v = .slice (some ⟨b, off, none⟩) n cap ∧ w.heap[b]? = some (.cells cur e (0, 0)) ∧ n ≤ cap ∧ cap ≤ maxLen ∧ off + cap * size ≤ cur.size ∧ ∀ j u, cs[j]? = some u → cur[off + j]? = some u)

/-- The block that a slice lies in. -/
def blk : Value → Nat → Prop
  | .slice (some a) _ _ => fun k => a.block = k
  | _ => fun _ => False

theorem Sown.rd {w : World} {e size : Nat} {v : Value} {n : Nat} {cs : List Value} (h : Sown w e size v n cs) : Rd w size v n cs := by
  refine ⟨h.1, ?_⟩
  rcases h.2 with h0 | ⟨b, off, cap, cur, rfl, hb, h1, h2, h3, h4⟩
  · exact .inl h0
  · refine .inr ⟨⟨b, off, none⟩, cap, rfl, h1, h2, fun j u hj => ⟨rfl, ?_⟩⟩
    rw [cell_of_row w b (off + j) cur e (0, 0) hb]
    exact h4 j u hj

theorem Sown.lt {w : World} {e size : Nat} {v : Value} {n : Nat} {cs : List Value} (h : Sown w e size v n cs) : ∀ k, blk v k → k < w.heap.size := by
  intro k hk
  rcases h.2 with ⟨rfl, _⟩ | ⟨b, off, cap, cur, rfl, hb, _⟩
  · exact hk.elim
  · cases hk; exact lt_of_heap hb

theorem Rd.lt {w : World} {size : Nat} {v : Value} {n : Nat} {cs : List Value} (h : Rd w size v n cs) (h0 : 0 < n * size) : ∀ k, blk v k → k < w.heap.size := by
  intro k hk
  rcases h.2 with ⟨rfl, _⟩ | ⟨a, cap, rfl, _, _, hc⟩
  · exact hk.elim
  · cases hk
    have hl : 0 < cs.length := by rw [h.1]; exact h0
    have := (hc 0 cs[0] (List.getElem?_eq_getElem hl)).2
    exact World.block_lt_of_cell? w ⟨a.block, a.off + 0, none⟩ this

theorem Sown.chg {S : Nat → Prop} {w w' : World} {e size : Nat} {v : Value} {n : Nat} {cs : List Value} (h : Sown w e size v n cs) (hc : Chg S w w') (hs : ∀ k, blk v k → ¬ S k) : Sown w' e size v n cs := by
  refine ⟨h.1, ?_⟩
  rcases h.2 with h0 | ⟨b, off, cap, cur, rfl, hb, rest⟩
  · exact .inl h0
  · exact .inr ⟨b, off, cap, cur, rfl, hc.heap hb (hs b rfl), rest⟩

theorem Rd.chg {S : Nat → Prop} {w w' : World} {size : Nat} {v : Value} {n : Nat} {cs : List Value} (h : Rd w size v n cs) (hc : Chg S w w') (hs : ∀ k, blk v k → ¬ S k) : Rd w' size v n cs := by
  refine ⟨h.1, ?_⟩
  rcases h.2 with h0 | ⟨a, cap, rfl, h1, h2, h3⟩
  · exact .inl h0
  · exact .inr ⟨a, cap, rfl, h1, h2, fun j u hj => ⟨(h3 j u hj).1, hc.cell (h3 j u hj).2 (hs a.block rfl)⟩⟩

theorem Rd.form {w : World} {size : Nat} {v : Value} {n : Nat} {cs : List Value} (h : Rd w size v n cs) : ∃ ao cap, v = .slice ao n cap ∧ n ≤ cap ∧ cap ≤ maxLen := by
  rcases h.2 with ⟨rfl, rfl⟩ | ⟨a, cap, rfl, h1, h2, _⟩
  · exact ⟨none, 0, rfl, Nat.le_refl _, Nat.zero_le _⟩
  · exact ⟨_, _, rfl, h1, h2⟩

theorem Rd.cell {w : World} {size : Nat} {ao : Option Addr} {n cap : Nat} {cs : List Value} (h : Rd w size (.slice ao n cap) n cs) (h0 : 0 < n * size) :
    ∃ b off, ao = some ⟨b, off, none⟩ ∧ n ≤ cap ∧ cap ≤ maxLen ∧ ∀ j u, cs[j]? = some u → w.cell? ⟨b, off + j, none⟩ = some u := by
  rcases h.2 with ⟨_, rfl⟩ | ⟨a, cap', he, h1, h2, h3⟩
  · omega
  · cases he
    have hl : 0 < cs.length := by rw [h.1]; exact h0
    have hs := (h3 0 cs[0] (List.getElem?_eq_getElem hl)).1
    obtain ⟨b, off, sp⟩ := a
    cases hs
    exact ⟨b, off, rfl, h1, h2, fun j u hj => (h3 j u hj).2⟩

theorem Sown.cell {w : World} {e size : Nat} {ao : Option Addr} {n cap : Nat} {cs : List Value} (h : Sown w e size (.slice ao n cap) n cs) (h0 : 0 < n) :
    ∃ b off cur, ao = some ⟨b, off, none⟩ ∧ w.heap[b]? = some (.cells cur e (0, 0)) ∧ n ≤ cap ∧ cap ≤ maxLen ∧ off + cap * size ≤ cur.size ∧ ∀ j u, cs[j]? = some u → cur[off + j]? = some u := by
  rcases h.2 with ⟨_, rfl⟩ | ⟨b, off, cap', cur, he, h1, h2, h3, h4, h5⟩
  · omega
  · cases he; exact ⟨b, off, cur, rfl, h1, h2, h3, h4, h5⟩

theorem Sown.nil (w : World) (e size : Nat) : Sown w e size (.slice none 0 0) 0 [] := ⟨by simp, .inl ⟨rfl, rfl⟩⟩
theorem Rd.nil (w : World) (size : Nat) : Rd w size (.slice none 0 0) 0 [] := ⟨by simp, .inl ⟨rfl, rfl⟩⟩

/-- A block just laid, as a slice over the whole of it. -/
theorem Sown.new (w : World) (e size : Nat) (cs : Array Value) (n : Nat) (hm : n ≤ maxLen) (hs : cs.size = n * size) : Sown (w.alloc (.cells cs e)) e size (.slice (some ⟨w.heap.size, 0, none⟩) n n) n cs.toList :=
  ⟨by simpa using hs, .inr ⟨_, 0, n, cs, rfl, World.alloc_heap_new w _, Nat.le_refl _, hm, by omega, fun j u h => by simpa using h⟩⟩

theorem Rd.take {w : World} {size : Nat} {ao : Option Addr} {n cap : Nat} {cs : List Value} (h : Rd w size (.slice ao n cap) n cs) (k : Nat) (hk : k ≤ n) : Rd w size (.slice ao k cap) k (cs.take (k * size)) := by
  have hle : k * size ≤ n * size := Nat.mul_le_mul_right _ hk
  refine ⟨by rw [List.length_take, h.1]; omega, ?_⟩
  rcases h.2 with ⟨he, rfl⟩ | ⟨a, cap', he, h1, h2, h3⟩
  · cases he; exact .inl ⟨by congr 1; omega, by omega⟩
  · cases he
    refine .inr ⟨a, cap, rfl, by omega, h2, fun j u hj => h3 j u ?_⟩
    rw [List.getElem?_take] at hj
    split at hj
    · exact hj
    · cases hj

theorem Rd.drop {w : World} {size : Nat} {b off n cap : Nat} {cs : List Value} (h : Rd w size (.slice (some ⟨b, off, none⟩) n cap) n cs) (k : Nat) (hk : k ≤ n) : Rd w size (.slice (some ⟨b, off + k * size, none⟩) (n - k) (cap - k)) (n - k) (cs.drop (k * size)) := by
  refine ⟨by rw [List.length_drop, h.1, Nat.sub_mul], ?_⟩
  rcases h.2 with ⟨he, rfl⟩ | ⟨a', cap', he, h1, h2, h3⟩
  · cases he
  · cases he
    refine .inr ⟨⟨b, off + k * size, none⟩, _, rfl, by omega, by omega, fun j u hj => ⟨rfl, ?_⟩⟩
    rw [List.getElem?_drop] at hj
    show w.cell? ⟨b, off + k * size + j, none⟩ = some u
    rw [Nat.add_assoc]
    exact (h3 _ u hj).2

theorem Rd.zero {w : World} {size : Nat} {a : Addr} {cap : Nat} (hc : cap ≤ maxLen) : Rd w size (.slice (some a) 0 cap) 0 [] := ⟨by simp, .inr ⟨a, cap, rfl, Nat.zero_le _, hc, fun j u h => by simp at h⟩⟩

/-- s[k:], as the model spells its address. -/
theorem Rd.from {w : World} {size : Nat} {ao : Option Addr} {n cap : Nat} {cs : List Value} (h : Rd w size (.slice ao n cap) n cs) (k : Nat) (hk : k ≤ n) :
    Rd w size (.slice (if cap = k then ao else ao.map (·.add (k * size))) (n - k) (cap - k)) (n - k) (cs.drop (k * size)) := by
  rcases h.2 with ⟨he, rfl⟩ | ⟨a, cap', he, h1, h2, h3⟩
  · cases he
    obtain rfl : k = 0 := by omega
    have hc : cs = [] := List.eq_nil_of_length_eq_zero (by simpa using h.1)
    subst hc
    simpa using Rd.nil w size
  · cases he
    by_cases hck : cap = k
    · rw [if_pos hck]
      have hn : n - k = 0 := by omega
      have hc : cs.drop (k * size) = [] := by
        apply List.eq_nil_of_length_eq_zero
        rw [List.length_drop, h.1, ← Nat.sub_mul, hn, Nat.zero_mul]
      rw [hn, hc]
      exact Rd.zero (by omega)
    · rw [if_neg hck]
      by_cases hn : cs = []
      · subst hn
        have hz : (n - k) * size = 0 := by
          have := h.1
          simp at this
          rw [Nat.sub_mul]; omega
        refine ⟨by simpa using hz.symm, .inr ⟨_, _, rfl, by omega, by omega, fun j u hj => by simp at hj⟩⟩
      · obtain ⟨b, off, sp⟩ := a
        obtain ⟨u, hu⟩ : ∃ u, cs[0]? = some u := by
          cases cs with
          | nil => exact absurd rfl hn
          | cons u _ => exact ⟨u, rfl⟩
        have hs := (h3 0 u hu).1
        cases hs
        have := h.drop k hk
        simpa [Addr.add_lit] using this

/-- Numbers of one kind, as values. -/
def ints (k : IntKind) (xs : List Int) : List Value := xs.map (Value.int k)
theorem ints_length (k : IntKind) (xs : List Int) : (ints k xs).length = xs.length := by simp [ints]
theorem ints_snoc (k : IntKind) (xs : List Int) (x : Int) : ints k xs ++ [.int k x] = ints k (xs ++ [x]) := by simp [ints]
theorem ints_append (k : IntKind) (xs ys : List Int) : ints k xs ++ ints k ys = ints k (xs ++ ys) := by simp [ints]
theorem ints_get (k : IntKind) (xs : List Int) (i : Nat) (h : i < xs.length) : (ints k xs)[i]? = some (.int k (xs.getD i 0)) := by simp [ints, h]
theorem ints_one (k : IntKind) (xs : List Int) : ∀ u ∈ ints k xs, u.oneCell' = true := by
  intro u hu
  obtain ⟨x, _, rfl⟩ := List.mem_map.1 hu
  rfl
theorem take_snoc {α : Type} (l : List α) (i : Nat) (x : α) (h : l[i]? = some x) : l.take i ++ [x] = l.take (i + 1) := by
  obtain ⟨hi, rfl⟩ := List.getElem?_eq_some_iff.1 h
  rw [List.take_succ_eq_append_getElem hi]

/-! ### Types of slices -/

/-- What is asked of a slice type t of elements e: its zero value z, of size cells, of so many bytes. -/
structure SlT (P : Program) (t e : TypeId) (z : Value) (size bytes : Nat) : Prop where
  u : P.underlying t = some (.slice e)
  i : ∃ i, P.info? e = some i ∧ i.zero = some z ∧ i.size = size ∧ i.bytes = bytes
  zs : z.cells.size = size
  pos : 0 < size

theorem SlT.mk' {P : Program} {t e : TypeId} {z : Value} {size bytes : Nat} (h1 : P.underlying t = some (.slice e)) (h2 : (P.info? e).map (fun i => (i.zero, i.size, i.bytes)) = some (some z, size, bytes)) (h3 : z.cells.size = size) (h4 : 0 < size) : SlT P t e z size bytes := by
  refine ⟨h1, ?_, h3, h4⟩
  cases h : P.info? e with
  | none => simp [h] at h2
  | some i => simp [h] at h2; exact ⟨i, rfl, h2.1, h2.2.1, h2.2.2⟩

section
variable {P : Program} (w : World)

theorem run_append_room_off (t ty e : TypeId) (i : TypeInfo) (ht : P.underlying t = some (.slice e)) (hi : P.info? e = some i)
    (g o sLen sCap : Nat) (cur : Array Value) (hg : w.heap[g]? = some (.cells cur e (0, 0)))
    (a : Addr) (m c : Nat) (news : List Value) (hl : news.length = m * i.size) (hnews : ∀ j u, news[j]? = some u → w.cell? (a.add j) = some u) (h1 : ∀ u ∈ news, u.oneCell' = true)
    (hroom : sLen + m ≤ sCap) (hfit : o + sLen * i.size + news.length ≤ cur.size) :
    (Builtin.append_ #[t, t] ty #[.slice (some ⟨g, o, none⟩) sLen sCap, .slice (some a) m c]).run P w =
      .ok (.slice (some ⟨g, o, none⟩) (sLen + m) sCap) (w.setRow g (cur.toList.take (o + sLen * i.size) ++ news ++ cur.toList.drop (o + sLen * i.size + news.length)).toArray) := by
  have hf := run_firstCells_some (P := P) w i.size m a m c news hl hnews
  have hst := run_storeCells_at P g (o + sLen * i.size) e news 0 cur w hg (by simpa using hfit) h1
  simp only [Nat.add_zero] at hst
  simp [Builtin.append_, run_underlying ht, sizeOf, typeInfo, hi, Builtin.lenOf, hroom, hf, Addr.add_lit, hst]

theorem run_append_none (t ty e : TypeId) (i : TypeInfo) (ht : P.underlying t = some (.slice e)) (hi : P.info? e = some i) (ao : Option Addr) (n cap : Nat) (h : n ≤ cap) (h0 : ao = none → n = 0 ∧ cap = 0) :
    (Builtin.append_ #[t, t] ty #[.slice ao n cap, .slice none 0 0]).run P w = .ok (.slice ao n cap) w := by
  cases ao with
  | none =>
    obtain ⟨rfl, rfl⟩ := h0 rfl
    simp [Builtin.append_, run_underlying ht, sizeOf, typeInfo, hi, Builtin.lenOf, Builtin.firstCells]
  | some a => simp [Builtin.append_, run_underlying ht, sizeOf, typeInfo, hi, Builtin.lenOf, Builtin.firstCells, h, storeCells]

/-- append of a slice that can be read onto one that is owned. -/
theorem run_app {t ty e : TypeId} {z : Value} {size bytes : Nat} (hT : SlT P t e z size bytes) {v : Value} {n : Nat} {xs : List Value} (hown : Sown w e size v n xs)
    {x : Value} {m : Nat} {news : List Value} (hx : Rd w size x m news) (h1 : ∀ u ∈ news, u.oneCell' = true) (h63 : n + m ≤ maxLen) (hbytes : (n + m) * bytes ≤ 140737488355328) :
    ∃ ao cap w', (Builtin.append_ #[t, t] ty #[v, x]).run P w = .ok (.slice ao (n + m) cap) w' ∧ Sown w' e size (.slice ao (n + m) cap) (n + m) (xs ++ news) ∧ Chg (blk v) w w' ∧
      (∀ k, blk (.slice ao (n + m) cap) k → blk v k ∨ (w.heap.size ≤ k ∧ k < w'.heap.size)) ∧ (ao = none ↔ v = .slice none 0 0 ∧ n + m = 0) ∧ ((∃ a c, v = .slice a n c ∧ ao = a) ∨ Chg (fun _ => False) w w') := by
  obtain ⟨ht, ⟨i, hi, hz, rfl, rfl⟩, hzs, hsz⟩ := hT
  have hsmall : n + m ≤ 9223372036854775807 := by simp only [maxLen] at h63; omega
  have hlen : (xs ++ news).length = (n + m) * i.size := by rw [List.length_append, hown.1, hx.1, Nat.add_mul]
  have grown : ∀ (old : Nat), old < n + m →
      Sown (w.drew.alloc (.cells (xs.toArray ++ news.toArray ++ Builtin.zeroCells z.cells (grownCap w (n + m) old e - (n + m))) e)) e i.size
        (.slice (some ⟨w.heap.size, 0, none⟩) (n + m) (grownCap w (n + m) old e)) (n + m) (xs ++ news) := by
    intro old ho
    have hge := grownCap_ge w (n + m) old e
    have hcm : grownCap w (n + m) old e ≤ maxLen := grownCap_le_maxLen w (n + m) old e h63
    refine ⟨hlen, .inr ⟨w.heap.size, 0, _, _, rfl, heap_alloc_new w.drew _, hge, hcm, ?_, ?_⟩⟩
    · simp only [Array.size_append, List.size_toArray, size_zeroCells, hzs, hown.1, hx.1, ← Nat.add_mul, Nat.zero_add]
      apply Nat.le_of_eq
      congr 1
      omega
    · intro j u hj
      simp only [Nat.zero_add]
      rw [Array.getElem?_append_left (by simp only [Array.size_append, List.size_toArray]; rw [← List.length_append]; exact (List.getElem?_eq_some_iff.1 hj).1)]
      simpa using hj
  rcases hx.2 with ⟨rfl, rfl⟩ | ⟨xa, c, rfl, hmc, hcm, hcell⟩
  · have hn : news = [] := List.eq_nil_of_length_eq_zero (by simpa using hx.1)
    subst hn
    obtain ⟨ao, cap, rfl, hle, _⟩ := hown.rd.form
    refine ⟨ao, cap, w, run_append_none w t ty e i ht hi ao n cap hle ?_, by simpa using hown, Chg.refl _ _, fun k hk => ?_, ?_, .inr (Chg.refl _ _)⟩
    · intro h0; subst h0
      rcases hown.2 with ⟨he, rfl⟩ | ⟨b, off, cap', cur, he, _⟩
      · cases he; exact ⟨rfl, rfl⟩
      · cases he
    · exact .inl hk
    · constructor
      · intro h0; subst h0
        rcases hown.2 with ⟨he, rfl⟩ | ⟨b, off, cap', cur, he, _⟩
        · exact ⟨he, rfl⟩
        · cases he
      · rintro ⟨h0, _⟩; cases h0; rfl
  · have hnews : ∀ j u, news[j]? = some u → w.cell? (xa.add j) = some u := fun j u hj => by
      obtain ⟨hs, hc⟩ := hcell j u hj
      obtain ⟨b, off, sp⟩ := xa
      cases hs
      rw [Addr.add_lit]; exact hc
    rcases hown.2 with ⟨rfl, rfl⟩ | ⟨g, o, cap, cur, rfl, hg, hnc, hcm2, hfit, hcur⟩
    · have hx0 : xs = [] := List.eq_nil_of_length_eq_zero (by simpa using hown.1)
      subst hx0
      by_cases hm : m = 0
      · subst hm
        have hn : news = [] := List.eq_nil_of_length_eq_zero (by simpa using hx.1)
        subst hn
        refine ⟨none, 0, w, ?_, Sown.nil _ _ _, Chg.refl _ _, fun k hk => hk.elim, by simp, .inr (Chg.refl _ _)⟩
        simp [Builtin.append_, run_underlying ht, sizeOf, typeInfo, hi, Builtin.lenOf, Builtin.firstCells, loadCells, loadCellsFrom]
      · have hr := run_append_nil (P := P) w t ty e i z ht hi hz xa m c news hx.1 hnews (by omega) (by omega) (by have hb := hbytes; simp only [Nat.zero_add] at hb; omega)
        have hgr := grown 0 (by omega)
        simp only [Nat.zero_add, List.nil_append, Array.empty_append] at hgr ⊢
        refine ⟨_, _, _, hr, hgr, (Chg.drew _ w).trans (Chg.alloc _ _ _), fun k hk => .inr ?_, by simp [hm], .inr ((Chg.drew _ w).trans (Chg.alloc _ _ _))⟩
        cases hk; simp
    · by_cases hroom : n + m ≤ cap
      · have hfit2 : o + n * i.size + news.length ≤ cur.size := by
          have : (n + m) * i.size ≤ cap * i.size := Nat.mul_le_mul_right _ hroom
          rw [hx.1]; rw [Nat.add_mul] at this; omega
        have hr := run_append_room_off (P := P) w t ty e i ht hi g o n cap cur hg xa m c news hx.1 hnews h1 hroom hfit2
        refine ⟨_, _, _, hr, ⟨hlen, .inr ⟨g, o, cap, _, rfl, setRow_heap w g cur _ e _ hg, hroom, hcm2, ?_, ?_⟩⟩, ⟨rfl, rfl, rfl, by simp, fun k _ hk => setRow_other w g k _ (fun e => hk e.symm)⟩, fun k hk => .inl hk, by simp, .inl ⟨_, _, rfl, rfl⟩⟩
        · simp only [List.size_toArray, List.length_append, List.length_take, List.length_drop, Array.length_toList]
          omega
        · intro j u hj
          simp only [List.getElem?_toArray]
          have hxl := hown.1
          by_cases hjn : j < n * i.size
          · rw [List.append_assoc, List.getElem?_append_left (by rw [List.length_take, Array.length_toList]; omega), List.getElem?_take, if_pos (by omega)]
            rw [List.getElem?_append_left (by omega)] at hj
            simpa using hcur j u hj
          · rw [List.getElem?_append_right (by omega), hxl] at hj
            have hl3 : j - n * i.size < news.length := (List.getElem?_eq_some_iff.1 hj).1
            rw [List.getElem?_append_left (by rw [List.length_append, List.length_take, Array.length_toList]; omega), List.getElem?_append_right (by rw [List.length_take, Array.length_toList]; omega), List.length_take, Array.length_toList]
            rw [show o + j - min (o + n * i.size) cur.size = j - n * i.size by omega]
            exact hj
      · have holds : ∀ j u, xs[j]? = some u → w.cell? ((⟨g, o, none⟩ : Addr).add j) = some u := fun j u hj => by
          rw [Addr.add_lit, cell_of_row w g (o + j) cur e (0, 0) hg]; exact hcur j u hj
        have hr := run_append_grow (P := P) w t ty e i z ht hi hz ⟨g, o, none⟩ n cap xs hown.1 holds xa m c news hx.1 hnews (by omega) (by omega) (growslice_fits (by omega) hbytes)
        refine ⟨_, _, _, hr, grown cap (by omega), (Chg.drew _ w).trans (Chg.alloc _ _ _), fun k hk => .inr ?_, by simp, .inr ((Chg.drew _ w).trans (Chg.alloc _ _ _))⟩
        cases hk; simp

variable {ops : Array Oper} {rest : List Oper} {o : Oper} {a : Act} {Q : Exit → Act → World → Prop}

end

end Go.Proofs.YtcplbkbimpiioaaGreatDoor
