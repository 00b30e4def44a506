/- Sums and the longest ones, as the reference tells them: plain laws. -/
import Derived.Test.YtbgimajbehodnaaGreatDoorRepZ
namespace Go.Proofs.YtbgimajbehodnaaGreatDoor
open Go Go.RowKit
/-! ### A sum's steps -/
structure CntA (s : Sm) : Prop where
  o : s.o ≤ s.n
  t : s.t ≤ s.n
  c : ∀ j, j < 8 → s.oc.getD j 0 ≤ s.n
theorem sumS_cntA {xs : List Rc} (h : ∀ r ∈ xs, r.ok) : CntA (sumS xs) := by
  revert h
  refine snoc_ind' (p := fun xs => (∀ r ∈ xs, r.ok) → CntA (sumS xs)) (fun _ => ⟨by decide, by decide, fun j hj => ?_⟩) (fun xs x ih h => ?_) xs
  · show (List.replicate 8 (0 : Int)).getD j 0 ≤ 0
    rw [List.getD_eq_getElem?_getD, List.getElem?_replicate, if_pos hj]
    exact Int.le_refl _
  have h1 := ih fun r hr => h r (List.mem_append_left _ hr)
  have hl := (sumS_ok fun r hr => h r (List.mem_append_left _ hr) : (sumS xs).ok).ol
  have hl2 := (oneS_ok (h x (by simp))).ol
  rw [sumS_snoc]
  refine ⟨satF_mono h1.o ?_, satF_mono h1.t ?_, fun j hj => ?_⟩
  · show (if x.out then (1 : Int) else 0) ≤ 1
    split <;> decide
  · show (if x.an = 0 then (0 : Int) else 1) ≤ 1
    split <;> decide
  · show (List.zipWith satF (sumS xs).oc (oneS x).oc).getD j 0 ≤ satF (sumS xs).n 1
    rw [zip_getD (by omega) (by omega)]
    refine satF_mono (h1.c j hj) ?_
    rw [one_oc x hj]
    split <;> decide
theorem ocF_lt {r : Rc} (h : r.ok) : ocF r < 8 := by
  have := h.oc
  unfold U8 at this
  unfold ocF
  split <;> omega
/-- How many ticks were talked. -/
def talF (r : Rc) : Int := if r.an = 0 ∨ r.en < r.an then 0 else r.en - r.an
theorem talF_u {r : Rc} (h : r.ok) : U64 (talF r) := by
  have h1 := h.an
  have h2 := h.en
  unfold talF U64 at *
  split <;> omega
theorem talF_one (r : Rc) : (if r.an = 0 then (0 : Int) else tookF r) = talF r := by
  unfold talF tookF
  by_cases h : r.an = 0
  · rw [if_pos h, if_pos (.inl h)]
  · rw [if_neg h]
    split <;> omega
/-- A sum and a record more. -/
def stp (s : Sm) (r : Rc) : Sm := ⟨s.n + 1, s.o + (if r.out then 1 else 0), s.t + (if r.an = 0 then 0 else 1), s.oc.set (ocF r) (s.oc.getD (ocF r) 0 + 1), satF s.tk (talF r), max s.lg (talF r),
  if s.n = 0 ∨ r.bg < s.fi then r.bg else s.fi, max s.la r.en⟩
theorem set_zip {a : List Int} {j : Nat} (h : ∀ x ∈ a, U64 x) (hl : a.length = 8) (hj : j < 8) (hs : a.getD j 0 + 1 < 18446744073709551616) : List.zipWith satF a ((List.replicate 8 0).set j 1) = a.set j (a.getD j 0 + 1) := by
  apply List.ext_getElem
  · simp [hl]
  · intro i h1 h2
    have hi : i < 8 := by simpa [hl] using h2
    have hu := h a[i] (List.getElem_mem _)
    unfold U64 at hu
    rw [List.getElem_zipWith, List.getElem_set, List.getElem_set]
    by_cases e : j = i
    · subst e
      rw [if_pos rfl, if_pos rfl]
      have e2 : a.getD j 0 = a[j] := by rw [List.getD_eq_getElem?_getD, List.getElem?_eq_getElem (by omega)]; rfl
      rw [e2] at hs ⊢
      unfold satF
      rw [if_pos hs]
    · rw [if_neg e, if_neg e, List.getElem_replicate]
      exact satF_zero (h a[i] (List.getElem_mem _))
theorem stp_join {xs : List Rc} {r : Rc} (h : ∀ r ∈ xs, r.ok) (hr : r.ok) (hl : xs.length ≤ 1000000) : stp (sumS xs) r = joinS (sumS xs) (oneS r) := by
  have hn := sumS_n hl
  have hc := sumS_cntA h
  have hok := sumS_ok h
  have c1 := hc.o
  have c2 := hc.t
  have c3 := hc.c _ (ocF_lt hr)
  have n1 := hok.o
  have n2 := hok.t
  have hen := hr.en
  have h0 := hok.no
  have hla := hok.la
  unfold U64 at n1 n2 hen hla
  refine Sm.ext' ?_ ?_ ?_ ?_ ?_ ?_ ?_ ?_
  · show (sumS xs).n + 1 = satF (sumS xs).n 1
    unfold satF; rw [if_pos (by omega)]
  · show (sumS xs).o + _ = satF (sumS xs).o (if r.out then 1 else 0)
    unfold satF; split <;> rw [if_pos (by omega)]
  · show (sumS xs).t + _ = satF (sumS xs).t (if r.an = 0 then 0 else 1)
    unfold satF; split <;> rw [if_pos (by omega)]
  · exact (set_zip hok.oc hok.ol (ocF_lt hr) (by omega)).symm
  · show satF _ _ = satF _ (if r.an = 0 then 0 else tookF r)
    rw [talF_one]
  · show max _ _ = max _ (if r.an = 0 then 0 else tookF r)
    rw [talF_one]
  · show (if (sumS xs).n = 0 ∨ r.bg < (sumS xs).fi then r.bg else (sumS xs).fi) = if (sumS xs).n = 0 then r.bg else if (0 : Int) < 1 then min (sumS xs).fi r.bg else (sumS xs).fi
    by_cases h1 : (sumS xs).n = 0
    · rw [if_pos (.inl h1), if_pos h1]
    · rw [if_neg h1, if_pos (show (0 : Int) < 1 by decide)]
      split <;> omega
  · show max (sumS xs).la r.en = if (sumS xs).n = 0 then r.en else if (0 : Int) < 1 then max (sumS xs).la r.en else (sumS xs).la
    by_cases h1 : (sumS xs).n = 0
    · rw [if_pos h1, (h0 h1).2]; omega
    · rw [if_neg h1, if_pos (show (0 : Int) < 1 by decide)]
/-! ### The longest ones, by marks -/
section
variable {α : Type}
/-- Those that are not marked. -/
def remL : List Bool → List α → List α
  | true :: bs, _ :: xs => remL bs xs
  | false :: bs, x :: xs => x :: remL bs xs
  | _, _ => []
theorem remL_none (xs : List α) : remL (List.replicate xs.length false) xs = xs := by
  induction xs with
  | nil => rfl
  | cons x xs ih => rw [List.length_cons, List.replicate_succ, remL, ih]
theorem remL_at : ∀ {bs : List Bool} {xs : List α} {b : Nat} {x : α}, bs[b]? = some false → xs[b]? = some x →
    remL bs xs = remL (bs.take b) (xs.take b) ++ x :: remL (bs.drop (b + 1)) (xs.drop (b + 1)) ∧ remL (bs.set b true) xs = remL (bs.take b) (xs.take b) ++ remL (bs.drop (b + 1)) (xs.drop (b + 1))
  | [], _, _, _, h, _ => by simp at h
  | _ :: _, [], _, _, _, h => by simp at h
  | c :: bs, y :: xs, 0, x, h1, h2 => by
    simp at h1 h2
    subst h1 h2
    simp [remL]
  | c :: bs, y :: xs, b + 1, x, h1, h2 => by
    obtain ⟨i1, i2⟩ := remL_at (bs := bs) (xs := xs) (b := b) (x := x) (by simpa using h1) (by simpa using h2)
    cases c
    · simp only [List.take_succ_cons, List.drop_succ_cons, List.set_cons_succ, remL, List.cons_append]
      exact ⟨by rw [i1], by rw [i2]⟩
    · simp only [List.take_succ_cons, List.drop_succ_cons, List.set_cons_succ, remL]
      exact ⟨i1, i2⟩
theorem remL_mem : ∀ {bs : List Bool} {xs : List α} {x : α}, x ∈ remL bs xs → ∃ j : Nat, bs[j]? = some false ∧ xs[j]? = some x
  | [], _, _, h => by simp [remL] at h
  | true :: bs, [], _, h => by simp [remL] at h
  | false :: bs, [], _, h => by simp [remL] at h
  | true :: bs, y :: xs, x, h => by
    obtain ⟨j, h1, h2⟩ := remL_mem (bs := bs) (xs := xs) (by simpa [remL] using h)
    exact ⟨j + 1, by simpa using h1, by simpa using h2⟩
  | false :: bs, y :: xs, x, h => by
    rw [remL] at h
    rcases List.mem_cons.1 h with rfl | h
    · exact ⟨0, rfl, rfl⟩
    · obtain ⟨j, h1, h2⟩ := remL_mem (bs := bs) (xs := xs) h
      exact ⟨j + 1, by simpa using h1, by simpa using h2⟩
variable (key : α → Int)
/-- What is known when some were taken out. -/
structure LgI (l out : List α) (bs : List Bool) : Prop where
  len : bs.length = l.length
  sr : srt key l = out ++ srt key (remL bs l)
theorem LgI.start (l : List α) : LgI key l [] (List.replicate l.length false) := ⟨List.length_replicate, by rw [remL_none]; rfl⟩
theorem LgI.left {l out : List α} {bs : List Bool} (h : LgI key l out bs) : (remL bs l).length + out.length = l.length := by
  have := congrArg List.length h.sr
  rw [List.length_append, srt_len, srt_len] at this
  omega
/-- What is known of the best one of the first i. -/
structure LgB (l : List α) (bs : List Bool) (i : Nat) (best : Int) : Prop where
  neg : best < 0 → best = -1 ∧ ∀ j : Nat, j < i → bs[j]? ≠ some false
  pos : 0 ≤ best → ∃ (b : Nat) (x : α), best = (b : Int) ∧ b < i ∧ bs[b]? = some false ∧ l[b]? = some x ∧ ∀ (j : Nat) (y : α), j < i → bs[j]? = some false → l[j]? = some y → key y ≤ key x ∧ (j < b → key y < key x)
theorem LgB.start (l : List α) (bs : List Bool) : LgB key l bs 0 (-1) := ⟨fun _ => ⟨rfl, fun j h => by omega⟩, fun h => by omega⟩
theorem LgB.skip {l : List α} {bs : List Bool} {i : Nat} {best : Int} (h : LgB key l bs i best) (hb : bs[i]? ≠ some false) : LgB key l bs (i + 1) best := by
  refine ⟨fun h0 => ⟨(h.neg h0).1, fun j hj => ?_⟩, fun h0 => ?_⟩
  · by_cases e : j = i
    · subst e; exact hb
    · exact (h.neg h0).2 j (by omega)
  · obtain ⟨b, x, h1, h2, h3, h4, h5⟩ := h.pos h0
    refine ⟨b, x, h1, by omega, h3, h4, fun j y hj hf hy => ?_⟩
    by_cases e : j = i
    · subst e; exact absurd hf hb
    · exact h5 j y (by omega) hf hy
theorem LgB.keep {l : List α} {bs : List Bool} {i b : Nat} {x y : α} (h : LgB key l bs i (b : Int)) (hx : l[b]? = some x) (hy : l[i]? = some y) (hk : key y ≤ key x) : LgB key l bs (i + 1) (b : Int) := by
  refine ⟨fun h0 => by omega, fun h0 => ?_⟩
  obtain ⟨b', x', h1, h2, h3, h4, h5⟩ := h.pos h0
  obtain rfl : b = b' := by omega
  rw [hx] at h4
  cases h4
  refine ⟨b, x, rfl, by omega, h3, hx, fun j z hj hf hz => ?_⟩
  by_cases e : j = i
  · subst e
    rw [hy] at hz
    cases hz
    exact ⟨hk, fun h => by omega⟩
  · exact h5 j z (by omega) hf hz
theorem LgB.take {l : List α} {bs : List Bool} {i : Nat} {best : Int} {y : α} (h : LgB key l bs i best) (hf : bs[i]? = some false) (hy : l[i]? = some y) (hk : best < 0 ∨ ∃ x, l[best.toNat]? = some x ∧ key x < key y) : LgB key l bs (i + 1) (i : Int) := by
  refine ⟨fun h0 => by omega, fun _ => ⟨i, y, rfl, by omega, hf, hy, fun j z hj hf2 hz => ?_⟩⟩
  by_cases e : j = i
  · subst e
    rw [hy] at hz
    cases hz
    exact ⟨Int.le_refl _, fun h => by omega⟩
  · have hji : j < i := by omega
    rcases Int.lt_or_le best 0 with h0 | h0
    · exact absurd hf2 ((h.neg h0).2 j hji)
    · obtain ⟨b, x, h1, h2, h3, h4, h5⟩ := h.pos h0
      rcases hk with hk | ⟨x', hx', hk⟩
      · omega
      · rw [h1, Int.toNat_natCast, h4] at hx'
        cases hx'
        have := (h5 j z hji hf2 hz).1
        exact ⟨by omega, fun _ => by omega⟩
theorem LgI.step {l out : List α} {bs : List Bool} (h : LgI key l out bs) {best : Int} (hb : LgB key l bs l.length best) (ho : out.length < l.length) : ∃ (b : Nat) (x : α), best = (b : Int) ∧ b < l.length ∧ bs[b]? = some false ∧ l[b]? = some x ∧ LgI key l (out ++ [x]) (bs.set b true) := by
  have hl := h.left
  have h0 : 0 ≤ best := by
    rcases Int.lt_or_le best 0 with h0 | h0
    · exfalso
      cases hr : remL bs l with
      | nil => rw [hr, List.length_nil] at hl; omega
      | cons z zs =>
        obtain ⟨j, h1, h2⟩ := remL_mem (bs := bs) (xs := l) (x := z) (by rw [hr]; simp)
        exact (hb.neg h0).2 j (List.getElem?_eq_some_iff.1 h2).1 h1
    · exact h0
  obtain ⟨b, x, h1, h2, h3, h4, h5⟩ := hb.pos h0
  obtain ⟨e1, e2⟩ := remL_at h3 h4
  refine ⟨b, x, h1, h2, h3, h4, by rw [List.length_set]; exact h.len, ?_⟩
  rw [h.sr, e1, e2, List.append_assoc]
  congr 1
  refine srt_best key (fun z hz => ?_) (fun z hz => ?_)
  · obtain ⟨j, hj1, hj2⟩ := remL_mem hz
    rw [List.getElem?_take] at hj1 hj2
    split at hj2
    · rename_i hjb
      rw [if_pos hjb] at hj1
      exact (h5 j z (by omega) hj1 hj2).2 hjb
    · cases hj2
  · obtain ⟨j, hj1, hj2⟩ := remL_mem hz
    rw [List.getElem?_drop] at hj1 hj2
    exact (h5 _ z (List.getElem?_eq_some_iff.1 hj2).1 hj1 hj2).1
theorem LgI.done {l out : List α} {bs : List Bool} {n : Nat} (h : LgI key l out bs) (hn : out.length ≤ n) (he : n ≤ out.length ∨ l.length ≤ out.length) : out = topS key n l := by
  have hl := h.left
  rw [topS_eq, h.sr]
  rcases he with he | he
  · rw [List.take_left' (by omega)]
  · have : remL bs l = [] := List.length_eq_zero_iff.1 (by omega)
    rw [this, show srt key ([] : List α) = [] from rfl, List.append_nil, List.take_of_length_le hn]
end
end Go.Proofs.YtbgimajbehodnaaGreatDoor

namespace Go.Proofs.YtbgimajbehodnaaGreatDoor
open Go Go.RowKit
theorem plusR_any (x y : Int) (hx : U64 x) (hy : U64 y) (w : World) (hw : OK w (fpL []) [] w) : Fn Tryz.prog 69 [.int .u64 x, .int .u64 y] [] w (fun _ : Unit => True) (fun _ => .int .u64 (satF x y)) (fun _ => []) := by
  have h1 := hx
  have h2 := hy
  unfold U64 at h1 h2
  refine enterF Tryz.func69 rfl Tryz.ntmps69 rfl hw ?_
  refine WC.seq ?_
  refine WC.region ?_
  refine WL.y (Yl.assign rfl) rfl ?_
  refine WL.nil ?_
  refine WC.seq ?_
  refine WC.seq ?_
  refine WC.region ?_
  refine WL.y (Yl.move rfl) rfl ?_
  refine WL.y (Yl.move rfl) rfl ?_
  refine WL.y (Yl.sub (r := 18446744073709551615 - y) rfl rfl (u64_in _ (by omega))) rfl ?_
  refine WL.y (Yl.gtr rfl rfl) rfl ?_
  refine WL.nil ?_
  refine WC.condD rfl (fun g8 => ?_) (fun g8 => ?_)
  · refine WC.seq ?_
    refine WC.region ?_
    refine WL.y (Yl.assign rfl) rfl ?_
    refine WL.nil ?_
    refine WC.ret ?_
    repeat (with_reducible (first | refine peelT ?_ | refine peelB ?_ | refine peelTX ?_ | refine peelBX ?_ | refine peelBN ?_ | refine peelBO rfl ?_))
    exact ret1 (.inr rfl) Tryz.results69 rfl fun w' h => ⟨(), trivial, by unfold satF; rw [if_neg (by omega)], h.sub (by repeat' constructor)⟩
  · refine WC.skip ?_
    refine WC.seq ?_
    refine WC.region ?_
    refine WL.y (Yl.move rfl) rfl ?_
    refine WL.y (Yl.move rfl) rfl ?_
    refine WL.y (Yl.add (r := satF x y) rfl rfl (by unfold satF; rw [if_pos (by omega)]; exact u64_in _ (by omega))) rfl ?_
    refine WL.y (Yl.assign rfl) rfl ?_
    refine WL.nil ?_
    refine WC.ret ?_
    repeat (with_reducible (first | refine peelT ?_ | refine peelB ?_ | refine peelTX ?_ | refine peelBX ?_ | refine peelBN ?_ | refine peelBO rfl ?_))
    exact ret1 (.inr rfl) Tryz.results69 rfl fun w' h => ⟨(), trivial, rfl, h.sub (by repeat' constructor)⟩
theorem talked_any (r : Rc) (hr : r.ok) (w : World) (hw : OK w (fpL []) [] w) : Fn Tryz.prog 68 [rcV r] [] w (fun _ : Unit => True) (fun _ => .int .u64 (talF r)) (fun _ => []) := by
  have h := hr.len
  have ha := hr.an
  have he := hr.en
  unfold U64 at ha he
  refine enterF Tryz.func68 rfl Tryz.ntmps68 rfl hw ?_
  refine WC.seq ?_
  refine WC.region ?_
  refine WL.to (To.box (cs := r.cells) rfl rfl) rfl ?_
  intro b1
  refine WL.y (Yl.assign rfl) rfl ?_
  refine WL.nil ?_
  refine WC.seq ?_
  refine WC.seq ?_
  refine WC.region ?_
  refine WL.y (Yl.field fo45_5 rfl) rfl ?_
  refine WL.y (Yl.load on34 rfl (by repeat constructor) (Rc.c20 h)) rfl ?_
  refine WL.y (Yl.eql rfl rfl) rfl ?_
  refine WL.y (Yl.move rfl) rfl ?_
  refine WL.both (t := 6) rfl (fun g6 => ?_) (fun g6 => ?_)
  · refine WL.off rfl rfl rfl rfl ?_
    refine WL.off rfl rfl rfl rfl ?_
    refine WL.off rfl rfl rfl rfl ?_
    refine WL.off rfl rfl rfl rfl ?_
    refine WL.off rfl rfl rfl rfl ?_
    refine WL.y (Yl.pickT rfl rfl) rfl ?_
    refine WL.nil ?_
    refine WC.condT rfl (by first | rfl | (simp; done) | (simp; omega)) ?_
    refine WC.seq ?_
    refine WC.region ?_
    refine WL.y (Yl.assign rfl) rfl ?_
    refine WL.nil ?_
    refine WC.ret ?_
    repeat (with_reducible (first | refine peelT ?_ | refine peelB ?_ | refine peelTX ?_ | refine peelBX ?_ | refine peelBN ?_ | refine peelBO rfl ?_))
    have h0 : r.an = 0 := by simpa using g6
    exact ret1 (.inr rfl) Tryz.results68 rfl fun w' hh => ⟨(), trivial, by unfold talF; rw [if_pos (.inl h0)], hh.sub (by repeat' constructor)⟩
  · refine WL.on rfl rfl ?_
    refine WL.y (Yl.field fo45_6 rfl) rfl ?_
    refine WL.on rfl rfl ?_
    refine WL.y (Yl.load on34 rfl (by repeat constructor) (Rc.c21 h)) rfl ?_
    refine WL.on rfl rfl ?_
    refine WL.y (Yl.field fo45_5 rfl) rfl ?_
    refine WL.on rfl rfl ?_
    refine WL.y (Yl.load on34 rfl (by repeat constructor) (Rc.c20 h)) rfl ?_
    refine WL.on rfl rfl ?_
    refine WL.y (Yl.lss rfl rfl) rfl ?_
    refine WL.y (Yl.pickF rfl rfl) rfl ?_
    refine WL.nil ?_
    refine WC.condD rfl (fun g12 => ?_) (fun g12 => ?_)
    · refine WC.seq ?_
      refine WC.region ?_
      refine WL.y (Yl.assign rfl) rfl ?_
      refine WL.nil ?_
      refine WC.ret ?_
      repeat (with_reducible (first | refine peelT ?_ | refine peelB ?_ | refine peelTX ?_ | refine peelBX ?_ | refine peelBN ?_ | refine peelBO rfl ?_))
      exact ret1 (.inr rfl) Tryz.results68 rfl fun w' hh => ⟨(), trivial, by unfold talF; rw [if_pos (.inr g12)], hh.sub (by repeat' constructor)⟩
    · refine WC.skip ?_
      refine WC.seq ?_
      refine WC.region ?_
      have h0 : ¬ r.an = 0 := by simpa using g6
      refine WL.y (Yl.field fo45_6 rfl) rfl ?_
      refine WL.y (Yl.load on34 rfl (by repeat constructor) (Rc.c21 h)) rfl ?_
      refine WL.y (Yl.field fo45_5 rfl) rfl ?_
      refine WL.y (Yl.load on34 rfl (by repeat constructor) (Rc.c20 h)) rfl ?_
      refine WL.y (Yl.sub (r := r.en - r.an) rfl rfl (u64_in _ (by omega))) rfl ?_
      refine WL.y (Yl.assign rfl) rfl ?_
      refine WL.nil ?_
      refine WC.ret ?_
      repeat (with_reducible (first | refine peelT ?_ | refine peelB ?_ | refine peelTX ?_ | refine peelBX ?_ | refine peelBN ?_ | refine peelBO rfl ?_))
      exact ret1 (.inr rfl) Tryz.results68 rfl fun w' hh => ⟨(), trivial, by unfold talF; rw [if_neg (fun q => q.elim h0 g12)], hh.sub (by repeat' constructor)⟩
theorem getD_ofI {a : List Int} {j : Nat} (h : j < a.length) : a[j]? = some (a.getD j 0) := by
  rw [List.getD_eq_getElem?_getD, List.getElem?_eq_getElem h]
  rfl
set_option maxRecDepth 100000 in
set_option maxHeartbeats 1600000 in
theorem refOf_any (v : Value) (xs : List Rc) (hG : ROk xs) (hl : xs.length ≤ 1000000) (w : World) (hx : RdS w (fpL []) v 22 xs.length (vcs rcV xs)) (hw : OK w (fpL []) [] w) :
    Fn Tryz.prog 25 [v] [] w (fun _ : Unit => True) (fun _ => smV (sumS xs)) (fun _ => []) := by
  obtain ⟨al, cl, rfl, hcl, hml⟩ := hx.rd.form
  refine enterF Tryz.func25 rfl Tryz.ntmps25 rfl hw ?_
  refine WC.seq ?_
  refine WC.region ?_
  refine WL.to (To.alloc (cs := Sm.zero.cells) zr72 rfl) rfl ?_
  intro b2
  refine WL.nil ?_
  refine WC.seq ?_
  refine WC.region ?_
  refine WL.y (Yl.build rfl (cs := Sm.zero.cells) (fun _ => by kernel_rfl)) rfl ?_
  refine WL.to (To.alloc (cs := Sm.zero.cells) zr72 rfl) rfl ?_
  intro b3
  refine WL.sto (Sto.agg sz72 rfl rfl (by repeat constructor) (Sm.ones _) rfl (by rfl) (putAll rfl)) (fun _ h => nomatch h) ?_
  refine WL.nil ?_
  refine WC.seq ?_
  refine WC.seq ?_
  refine WC.region ?_
  refine WL.y (Yl.assign rfl) rfl ?_
  refine WL.nil ?_
  refine WC.block ?_
  refine WC.loop (α := Nat) (fun i => [(0, .slice al xs.length cl), (2, .pointer (some ⟨b2, 0, none⟩)), (3, .pointer (some ⟨b3, 0, none⟩)), (4, .int .i64 (i : Int))]) (fun i => [blkR b2 72 Sm.zero.cells, blkR b3 72 (sumS (xs.take i)).cells]) (fun i => i ≤ xs.length) (fun i => xs.length - i) 0 (Nat.zero_le _) ⟨(by repeat' constructor), _, (by repeat' constructor)⟩ ?_
  intro i hi
  refine WC.seq ?_
  refine WC.seq ?_
  refine WC.region ?_
  refine WL.y (Yl.move rfl) rfl ?_
  refine WL.y (Yl.move rfl) rfl ?_
  refine WL.y (Yl.len un33 rfl) rfl ?_
  refine WL.y (Yl.lss rfl rfl) rfl ?_
  refine WL.nil ?_
  refine WC.condD rfl (fun g11 => ?_) (fun g11 => ?_)
  · refine WC.skip ?_
    refine WC.seq ?_
    refine WC.block ?_
    refine WC.seq ?_
    refine WC.region ?_
    have hil : i < xs.length := by omega
    obtain ⟨x, hx0⟩ : ∃ x, xs[i]? = some x := ⟨_, List.getElem?_eq_getElem hil⟩
    have hxo := hG.get hx0
    have h22 := Rc.cells_len hxo.len
    have hnx : xs.take (i + 1) = xs.take i ++ [x] := (take_snoc _ _ _ hx0).symm
    have hto : ∀ r ∈ xs.take i, r.ok := fun r hr => hG r (List.mem_of_mem_take hr)
    have htl : (xs.take i).length = i := by rw [List.length_take]; omega
    have hso := sumS_ok hto
    have hsn := sumS_n (xs := xs.take i) (by omega)
    have hsc := sumS_cntA hto
    have hst := stp_join hto hxo (by omega)
    rw [← sumS_snoc, ← hnx] at hst
    rw [htl] at hsn
    generalize sumS (xs.take i) = S at hso hsn hsc hst ⊢
    have hol := hso.ol
    have c1 := hsc.o
    have c2 := hsc.t
    have hoF := ocF_lt hxo
    have c3 := hsc.c _ hoF
    have p1 := hso.o.1
    have p2 := hso.t.1
    have hoc := getD_ofI (a := S.oc) (j := ocF x) (by omega)
    have p3 := (hso.oc _ (List.mem_of_getElem? hoc)).1
    have hxc := hxo.oc
    unfold U8 at hxc
    refine WL.y (Yl.move rfl) rfl ?_
    refine WL.y (Yl.move rfl) rfl ?_
    refine WL.y (Yl.index un33 sz45 rfl rfl (Reads.s hx) rfl (by omega)) rfl ?_
    refine WL.y (Yl.loadV (j := i) (u := x) vtR hG rfl (Reads.s hx) rfl hx0) rfl ?_
    refine WL.to (To.alloc (cs := Rc.zero.cells) zr45 rfl) rfl ?_
    intro b5
    refine WL.sto (Sto.agg sz45 rfl rfl (by repeat constructor) (Rc.ones _) h22 (by rfl) (Rc.all (r := Rc.zero) rfl x.cells h22)) (fun _ h => nomatch h) ?_
    refine WL.nil ?_
    refine WC.seq ?_
    refine WC.region ?_
    refine WL.y (Yl.field fo72_0 rfl) rfl ?_
    refine WL.y (Yl.load on34 rfl (by repeat constructor) (Sm.g0 S)) rfl ?_
    refine WL.y (Yl.add (r := S.n + 1) rfl rfl (u64_in _ (by omega))) rfl ?_
    refine WL.y (Yl.field fo72_0 rfl) rfl ?_
    refine WL.sto (Sto.oneS sz34 rfl rfl (by repeat constructor) rfl (by rw [Sm.cells_len hol]; omega) (Sm.s0 _ _)) (fun _ h => nomatch h) ?_
    refine WL.nil ?_
    refine WC.midX (α := Unit) (fun _ => [(0, .slice al xs.length cl), (2, .pointer (some ⟨b2, 0, none⟩)), (3, .pointer (some ⟨b3, 0, none⟩)), (4, .int .i64 (i : Int)), (5, .pointer (some ⟨b5, 0, none⟩))]) (fun _ => [blkR b2 72 Sm.zero.cells, blkR b5 45 x.cells, blkR b3 72 (({ S with n := S.n + 1, o := S.o + if x.out then 1 else 0 } : Sm)).cells]) (fun _ => True) ?_ ?_
    · refine WC.seq ?_
      refine WC.region ?_
      refine WL.y (Yl.field fo45_2 rfl) rfl ?_
      refine WL.y (Yl.load on4 rfl (by repeat constructor) (Rc.c17 hxo.len)) rfl ?_
      refine WL.nil ?_
      refine WC.cond rfl (fun g23 => ?_) (fun g23 => ?_)
      · refine WC.region ?_
        refine WL.y (Yl.field fo72_1 rfl) rfl ?_
        refine WL.y (Yl.load on34 rfl (by repeat constructor) (show _ = some (Value.int .u64 S.o) from Sm.g1 (({ S with n := S.n + 1 } : Sm)))) rfl ?_
        refine WL.y (Yl.add (r := S.o + 1) rfl rfl (u64_in _ (by omega))) rfl ?_
        refine WL.y (Yl.field fo72_1 rfl) rfl ?_
        refine WL.sto (Sto.oneS sz34 rfl rfl (by repeat constructor) rfl (by rw [Sm.cells_len (by exact hol)]; omega) (Sm.s1 (({ S with n := S.n + 1 } : Sm)) _)) (fun _ h => nomatch h) ?_
        refine WL.nil ?_
        rw [if_pos g23]
        exact ⟨rfl, (), trivial, (by repeat' constructor), _, (by repeat' constructor)⟩
      · refine WC.skip ?_
        rw [if_neg (ne_true_of_eq_false g23), Int.add_zero]
        exact ⟨rfl, (), trivial, (by repeat' constructor), _, (by repeat' constructor)⟩
    · rintro ⟨⟩ -
      refine WC.midX (α := Unit) (fun _ => [(0, .slice al xs.length cl), (2, .pointer (some ⟨b2, 0, none⟩)), (3, .pointer (some ⟨b3, 0, none⟩)), (4, .int .i64 (i : Int)), (5, .pointer (some ⟨b5, 0, none⟩))]) (fun _ => [blkR b2 72 Sm.zero.cells, blkR b5 45 x.cells, blkR b3 72 (({ S with n := S.n + 1, o := S.o + if x.out then 1 else 0, t := S.t + if x.an = 0 then 0 else 1 } : Sm)).cells]) (fun _ => True) ?_ ?_
      · refine WC.seq ?_
        refine WC.region ?_
        refine WL.y (Yl.field fo45_5 rfl) rfl ?_
        refine WL.y (Yl.load on34 rfl (by repeat constructor) (Rc.c20 hxo.len)) rfl ?_
        refine WL.y (Yl.neq rfl rfl) rfl ?_
        refine WL.nil ?_
        refine WC.condD rfl (fun g30 => ?_) (fun g30 => ?_)
        · refine WC.region ?_
          refine WL.y (Yl.field fo72_2 rfl) rfl ?_
          refine WL.y (Yl.load on34 rfl (by repeat constructor) (show _ = some (Value.int .u64 S.t) from Sm.g2 (({ S with n := S.n + 1, o := S.o + if x.out then 1 else 0 } : Sm)))) rfl ?_
          refine WL.y (Yl.add (r := S.t + 1) rfl rfl (u64_in _ (by omega))) rfl ?_
          refine WL.y (Yl.field fo72_2 rfl) rfl ?_
          refine WL.sto (Sto.oneS sz34 rfl rfl (by repeat constructor) rfl (by rw [Sm.cells_len (by exact hol)]; omega) (Sm.s2 (({ S with n := S.n + 1, o := S.o + if x.out then 1 else 0 } : Sm)) _)) (fun _ h => nomatch h) ?_
          refine WL.nil ?_
          rw [if_neg (c := x.an = 0) g30]
          exact ⟨rfl, (), trivial, (by repeat' constructor), _, (by repeat' constructor)⟩
        · refine WC.skip ?_
          rw [if_pos (c := x.an = 0) (by simpa using g30), Int.add_zero]
          exact ⟨rfl, (), trivial, (by repeat' constructor), _, (by repeat' constructor)⟩
      · rintro ⟨⟩ -
        refine WC.midX (α := Unit) (fun _ => [(0, .slice al xs.length cl), (2, .pointer (some ⟨b2, 0, none⟩)), (3, .pointer (some ⟨b3, 0, none⟩)), (4, .int .i64 (i : Int)), (5, .pointer (some ⟨b5, 0, none⟩))]) (fun _ => [blkR b2 72 Sm.zero.cells, blkR b5 45 x.cells, blkR b3 72 (({ S with n := S.n + 1, o := S.o + if x.out then 1 else 0, t := S.t + if x.an = 0 then 0 else 1, oc := S.oc.set (ocF x) (S.oc.getD (ocF x) 0 + 1) } : Sm)).cells]) (fun _ => True) ?_ ?_
        · refine WC.seq ?_
          refine WC.region ?_
          refine WL.y (Yl.field fo45_3 rfl) rfl ?_
          refine WL.y (Yl.load on5 rfl (by repeat constructor) (Rc.c18 hxo.len)) rfl ?_
          refine WL.y (Yl.lss rfl rfl) rfl ?_
          refine WL.nil ?_
          refine WC.condD rfl (fun g37 => ?_) (fun g37 => ?_)
          · refine WC.region ?_
            refine WL.y (Yl.field fo45_3 rfl) rfl ?_
            refine WL.y (Yl.load on5 rfl (by repeat constructor) (Rc.c18 hxo.len)) rfl ?_
            refine WL.say (t := 39) (v' := .int .u8 ((ocF x : Nat) : Int)) rfl (by (refine congrArg _ ?_; unfold ocF; rw [if_neg (by omega)]; omega)) ?_
            refine WL.y (Yl.field fo72_3 rfl) rfl ?_
            refine WL.y (Yl.indexA un35 sz34 rfl rfl rfl (by omega)) rfl ?_
            refine WL.y (Yl.loadSm on34 rfl (by repeat constructor) (Sm.ocAt (s := ({ S with n := S.n + 1, o := S.o + if x.out then 1 else 0, t := S.t + if x.an = 0 then 0 else 1 } : Sm)) hol hoc (by omega))) rfl ?_
            refine WL.y (Yl.add (r := S.oc.getD (ocF x) 0 + 1) rfl rfl (u64_in _ (by omega))) rfl ?_
            refine WL.y (Yl.field fo72_3 rfl) rfl ?_
            refine WL.y (Yl.indexA un35 sz34 rfl rfl rfl (by omega)) rfl ?_
            refine WL.sto (Sto.oneS sz34 rfl rfl (by repeat constructor) rfl (by rw [Sm.cells_len (by exact hol)]; omega) (Sm.ocSet (s := ({ S with n := S.n + 1, o := S.o + if x.out then 1 else 0, t := S.t + if x.an = 0 then 0 else 1 } : Sm)) (i := ocF x) hol hoF _ (by omega))) (fun _ h => nomatch h) ?_
            refine WL.nil ?_
            exact ⟨rfl, (), trivial, (by repeat' constructor), _, (by repeat' constructor)⟩
          · refine WC.region ?_
            have e0 : ocF x = 0 := by unfold ocF; rw [if_pos (by omega)]
            rw [e0] at hoc p3 c3
            refine WL.y (Yl.field fo72_3 rfl) rfl ?_
            refine WL.y (Yl.indexA (j := 0) un35 sz34 rfl rfl rfl (by omega)) rfl ?_
            refine WL.y (Yl.loadSm on34 rfl (by repeat constructor) (Sm.ocAt (s := ({ S with n := S.n + 1, o := S.o + if x.out then 1 else 0, t := S.t + if x.an = 0 then 0 else 1 } : Sm)) (i := 0) hol hoc (by omega))) rfl ?_
            refine WL.y (Yl.add (r := S.oc.getD 0 0 + 1) rfl rfl (u64_in _ (by omega))) rfl ?_
            refine WL.y (Yl.field fo72_3 rfl) rfl ?_
            refine WL.y (Yl.indexA (j := 0) un35 sz34 rfl rfl rfl (by omega)) rfl ?_
            refine WL.sto (Sto.oneS sz34 rfl rfl (by repeat constructor) rfl (by rw [Sm.cells_len (by exact hol)]; omega) (Sm.ocSet (s := ({ S with n := S.n + 1, o := S.o + if x.out then 1 else 0, t := S.t + if x.an = 0 then 0 else 1 } : Sm)) (i := 0) hol (by decide) _ (by omega))) (fun _ h => nomatch h) ?_
            refine WL.nil ?_
            rw [e0]
            exact ⟨rfl, (), trivial, (by repeat' constructor), _, (by repeat' constructor)⟩
        · rintro ⟨⟩ -
          have hol4 : (S.oc.set (ocF x) (S.oc.getD (ocF x) 0 + 1)).length = 8 := by rw [List.length_set]; exact hol
          refine WC.seq ?_
          refine WC.region ?_
          refine WL.y (Yl.loadN ag45 rfl (by repeat constructor) (leBl (by rw [h22]; omega)) (Rc.call hxo.len)) rfl ?_
          refine WL.callC (xs := [.tmp 52]) (cap := []) rfl rfl en68 (by repeat' constructor) (fun w hw => talked_any x hxo w hw.left.here) rfl ?_
          rintro ⟨⟩ -
          have hta := talF_u hxo
          have htk := hso.tk
          have hlg := hso.lg
          refine WL.y (Yl.assign rfl) rfl ?_
          refine WL.nil ?_
          refine WC.seq ?_
          refine WC.region ?_
          refine WL.y (Yl.field fo72_4 rfl) rfl ?_
          refine WL.y (Yl.load on34 rfl (by repeat constructor) (show _ = some (Value.int .u64 S.tk) from Sm.g11 (s := ({ S with n := S.n + 1, o := S.o + if x.out then 1 else 0, t := S.t + if x.an = 0 then 0 else 1, oc := S.oc.set (ocF x) (S.oc.getD (ocF x) 0 + 1) } : Sm)) hol4)) rfl ?_
          refine WL.y (Yl.move rfl) rfl ?_
          refine WL.callC (xs := [.tmp 55, .tmp 56]) (cap := []) rfl rfl en69 (by repeat' constructor) (fun w hw => plusR_any S.tk (talF x) htk hta w hw.left.here) rfl ?_
          rintro ⟨⟩ -
          refine WL.y (Yl.field fo72_4 rfl) rfl ?_
          refine WL.sto (Sto.oneS sz34 rfl rfl (by repeat constructor) rfl (by rw [Sm.cells_len (by exact hol4)]; omega) (Sm.s11 (s := ({ S with n := S.n + 1, o := S.o + if x.out then 1 else 0, t := S.t + if x.an = 0 then 0 else 1, oc := S.oc.set (ocF x) (S.oc.getD (ocF x) 0 + 1) } : Sm)) hol4 _)) (fun _ h => nomatch h) ?_
          refine WL.nil ?_
          refine WC.midX (α := Unit) (fun _ => [(0, .slice al xs.length cl), (2, .pointer (some ⟨b2, 0, none⟩)), (3, .pointer (some ⟨b3, 0, none⟩)), (4, .int .i64 (i : Int)), (5, .pointer (some ⟨b5, 0, none⟩)), (6, .int .u64 (talF x))]) (fun _ => [blkR b2 72 Sm.zero.cells, blkR b5 45 x.cells, blkR b3 72 (({ S with n := S.n + 1, o := S.o + if x.out then 1 else 0, t := S.t + if x.an = 0 then 0 else 1, oc := S.oc.set (ocF x) (S.oc.getD (ocF x) 0 + 1), tk := satF S.tk (talF x), lg := max S.lg (talF x) } : Sm)).cells]) (fun _ => True) ?_ ?_
          · refine WC.seq ?_
            refine WC.region ?_
            refine WL.y (Yl.move rfl) rfl ?_
            refine WL.y (Yl.field fo72_5 rfl) rfl ?_
            refine WL.y (Yl.load on34 rfl (by repeat constructor) (show _ = some (Value.int .u64 S.lg) from Sm.g12 (s := ({ S with n := S.n + 1, o := S.o + if x.out then 1 else 0, t := S.t + if x.an = 0 then 0 else 1, oc := S.oc.set (ocF x) (S.oc.getD (ocF x) 0 + 1), tk := satF S.tk (talF x) } : Sm)) hol4)) rfl ?_
            refine WL.y (Yl.gtr rfl rfl) rfl ?_
            refine WL.nil ?_
            refine WC.condD rfl (fun g62 => ?_) (fun g62 => ?_)
            · refine WC.region ?_
              refine WL.y (Yl.move rfl) rfl ?_
              refine WL.y (Yl.field fo72_5 rfl) rfl ?_
              refine WL.sto (Sto.oneS sz34 rfl rfl (by repeat constructor) rfl (by rw [Sm.cells_len (by exact hol4)]; omega) (Sm.s12 (s := ({ S with n := S.n + 1, o := S.o + if x.out then 1 else 0, t := S.t + if x.an = 0 then 0 else 1, oc := S.oc.set (ocF x) (S.oc.getD (ocF x) 0 + 1), tk := satF S.tk (talF x) } : Sm)) hol4 _)) (fun _ h => nomatch h) ?_
              refine WL.nil ?_
              rw [show max S.lg (talF x) = talF x by omega]
              exact ⟨rfl, (), trivial, (by repeat' constructor), _, (by repeat' constructor)⟩
            · refine WC.skip ?_
              rw [show max S.lg (talF x) = S.lg by omega]
              exact ⟨rfl, (), trivial, (by repeat' constructor), _, (by repeat' constructor)⟩
          · rintro ⟨⟩ -
            refine WC.midX (α := Unit) (fun _ => [(0, .slice al xs.length cl), (2, .pointer (some ⟨b2, 0, none⟩)), (3, .pointer (some ⟨b3, 0, none⟩)), (4, .int .i64 (i : Int)), (5, .pointer (some ⟨b5, 0, none⟩)), (6, .int .u64 (talF x))]) (fun _ => [blkR b2 72 Sm.zero.cells, blkR b5 45 x.cells, blkR b3 72 (({ S with n := S.n + 1, o := S.o + if x.out then 1 else 0, t := S.t + if x.an = 0 then 0 else 1, oc := S.oc.set (ocF x) (S.oc.getD (ocF x) 0 + 1), tk := satF S.tk (talF x), lg := max S.lg (talF x), fi := if S.n = 0 ∨ x.bg < S.fi then x.bg else S.fi } : Sm)).cells]) (fun _ => True) ?_ ?_
            · refine WC.seq ?_
              refine WC.region ?_
              refine WL.y (Yl.move rfl) rfl ?_
              refine WL.y (Yl.eql rfl rfl) rfl ?_
              refine WL.y (Yl.move rfl) rfl ?_
              refine WL.both (t := 67) rfl (fun g67 => ?_) (fun g67 => ?_)
              · refine WL.off rfl rfl rfl rfl ?_
                refine WL.off rfl rfl rfl rfl ?_
                refine WL.off rfl rfl rfl rfl ?_
                refine WL.off rfl rfl rfl rfl ?_
                refine WL.off rfl rfl rfl rfl ?_
                refine WL.y (Yl.pickT rfl rfl) rfl ?_
                refine WL.nil ?_
                refine WC.condT rfl (by first | rfl | (simp; done) | (simp; omega)) ?_
                refine WC.region ?_
                refine WL.y (Yl.field fo45_4 rfl) rfl ?_
                refine WL.y (Yl.load on34 rfl (by repeat constructor) (Rc.c19 hxo.len)) rfl ?_
                refine WL.y (Yl.field fo72_6 rfl) rfl ?_
                refine WL.sto (Sto.oneS sz34 rfl rfl (by repeat constructor) rfl (by rw [Sm.cells_len (by exact hol4)]; omega) (Sm.s13 (s := ({ S with n := S.n + 1, o := S.o + if x.out then 1 else 0, t := S.t + if x.an = 0 then 0 else 1, oc := S.oc.set (ocF x) (S.oc.getD (ocF x) 0 + 1), tk := satF S.tk (talF x), lg := max S.lg (talF x) } : Sm)) hol4 _)) (fun _ h => nomatch h) ?_
                refine WL.nil ?_
                rw [if_pos (c := S.n = 0 ∨ x.bg < S.fi) (.inl (by have q := g67; simp at q; omega))]
                exact ⟨rfl, (), trivial, (by repeat' constructor), _, (by repeat' constructor)⟩
              · refine WL.on rfl rfl ?_
                refine WL.y (Yl.field fo45_4 rfl) rfl ?_
                refine WL.on rfl rfl ?_
                refine WL.y (Yl.load on34 rfl (by repeat constructor) (Rc.c19 hxo.len)) rfl ?_
                refine WL.on rfl rfl ?_
                refine WL.y (Yl.field fo72_6 rfl) rfl ?_
                refine WL.on rfl rfl ?_
                refine WL.y (Yl.load on34 rfl (by repeat constructor) (show _ = some (Value.int .u64 S.fi) from Sm.g13 (s := ({ S with n := S.n + 1, o := S.o + if x.out then 1 else 0, t := S.t + if x.an = 0 then 0 else 1, oc := S.oc.set (ocF x) (S.oc.getD (ocF x) 0 + 1), tk := satF S.tk (talF x), lg := max S.lg (talF x) } : Sm)) hol4)) rfl ?_
                refine WL.on rfl rfl ?_
                refine WL.y (Yl.lss rfl rfl) rfl ?_
                refine WL.y (Yl.pickF rfl rfl) rfl ?_
                refine WL.nil ?_
                refine WC.condD rfl (fun g73 => ?_) (fun g73 => ?_)
                · refine WC.region ?_
                  refine WL.y (Yl.field fo45_4 rfl) rfl ?_
                  refine WL.y (Yl.load on34 rfl (by repeat constructor) (Rc.c19 hxo.len)) rfl ?_
                  refine WL.y (Yl.field fo72_6 rfl) rfl ?_
                  refine WL.sto (Sto.oneS sz34 rfl rfl (by repeat constructor) rfl (by rw [Sm.cells_len (by exact hol4)]; omega) (Sm.s13 (s := ({ S with n := S.n + 1, o := S.o + if x.out then 1 else 0, t := S.t + if x.an = 0 then 0 else 1, oc := S.oc.set (ocF x) (S.oc.getD (ocF x) 0 + 1), tk := satF S.tk (talF x), lg := max S.lg (talF x) } : Sm)) hol4 _)) (fun _ h => nomatch h) ?_
                  refine WL.nil ?_
                  rw [if_pos (c := S.n = 0 ∨ x.bg < S.fi) (.inr g73)]
                  exact ⟨rfl, (), trivial, (by repeat' constructor), _, (by repeat' constructor)⟩
                · refine WC.skip ?_
                  rw [if_neg (c := S.n = 0 ∨ x.bg < S.fi) (fun q => q.elim (fun q => by have q2 := g67; simp at q2; omega) g73)]
                  exact ⟨rfl, (), trivial, (by repeat' constructor), _, (by repeat' constructor)⟩
            · rintro ⟨⟩ -
              refine WC.seq ?_
              refine WC.region ?_
              refine WL.y (Yl.field fo45_6 rfl) rfl ?_
              refine WL.y (Yl.load on34 rfl (by repeat constructor) (Rc.c21 hxo.len)) rfl ?_
              refine WL.y (Yl.field fo72_7 rfl) rfl ?_
              refine WL.y (Yl.load on34 rfl (by repeat constructor) (show _ = some (Value.int .u64 S.la) from Sm.g14 (s := ({ S with n := S.n + 1, o := S.o + if x.out then 1 else 0, t := S.t + if x.an = 0 then 0 else 1, oc := S.oc.set (ocF x) (S.oc.getD (ocF x) 0 + 1), tk := satF S.tk (talF x), lg := max S.lg (talF x), fi := if S.n = 0 ∨ x.bg < S.fi then x.bg else S.fi } : Sm)) hol4)) rfl ?_
              refine WL.y (Yl.gtr rfl rfl) rfl ?_
              refine WL.nil ?_
              refine WC.condD rfl (fun g81 => ?_) (fun g81 => ?_)
              · refine WC.region ?_
                refine WL.y (Yl.field fo45_6 rfl) rfl ?_
                refine WL.y (Yl.load on34 rfl (by repeat constructor) (Rc.c21 hxo.len)) rfl ?_
                refine WL.y (Yl.field fo72_7 rfl) rfl ?_
                refine WL.sto (Sto.oneS sz34 rfl rfl (by repeat constructor) rfl (by rw [Sm.cells_len (by exact hol4)]; omega) (Sm.s14 (s := ({ S with n := S.n + 1, o := S.o + if x.out then 1 else 0, t := S.t + if x.an = 0 then 0 else 1, oc := S.oc.set (ocF x) (S.oc.getD (ocF x) 0 + 1), tk := satF S.tk (talF x), lg := max S.lg (talF x), fi := if S.n = 0 ∨ x.bg < S.fi then x.bg else S.fi } : Sm)) hol4 _)) (fun _ h => nomatch h) ?_
                refine WL.nil ?_
                refine WC.region ?_
                refine WL.y (Yl.move rfl) rfl ?_
                refine WL.y (Yl.add rfl rfl (IntWalk.i64_in _ (by omega))) rfl ?_
                refine WL.y (Yl.assign rfl) rfl ?_
                refine WL.nil ?_
                exact ⟨rfl, i + 1, by omega, by omega, (by repeat' constructor), _, by
                  rw [← hst]
                  unfold stp
                  rw [show max S.la x.en = x.en by omega]
                  exact (by repeat' constructor)⟩
              · refine WC.skip ?_
                refine WC.region ?_
                refine WL.y (Yl.move rfl) rfl ?_
                refine WL.y (Yl.add rfl rfl (IntWalk.i64_in _ (by omega))) rfl ?_
                refine WL.y (Yl.assign rfl) rfl ?_
                refine WL.nil ?_
                exact ⟨rfl, i + 1, by omega, by omega, (by repeat' constructor), _, by
                  rw [← hst]
                  unfold stp
                  rw [show max S.la x.en = S.la by omega]
                  exact (by repeat' constructor)⟩
  · refine WC.exit ?_
    refine WC.seq ?_
    obtain rfl : i = xs.length := by omega
    rw [List.take_length]
    have hsl := (sumS_ok hG).ol
    refine WC.region ?_
    refine WL.y (Yl.loadN ag72 rfl (by repeat constructor) (leBl (by rw [Sm.cells_len hsl]; omega)) (Sm.call hsl)) rfl ?_
    refine WL.sto (Sto.agg sz72 rfl rfl (by repeat constructor) (Sm.ones _) (Sm.cells_len hsl) (by rfl) (putAll rfl)) (fun _ h => nomatch h) ?_
    refine WL.nil ?_
    refine WC.ret ?_
    repeat (with_reducible (first | refine peelT ?_ | refine peelB ?_ | refine peelTX ?_ | refine peelBX ?_ | refine peelBN ?_ | refine peelBO rfl ?_))
    exact retC1 (.inr rfl) Tryz.results25 ag72 rfl (by repeat constructor) (Sm.cells_len hsl) fun w' h => ⟨(), trivial, rfl, h.sub (by repeat' constructor)⟩
end Go.Proofs.YtbgimajbehodnaaGreatDoor

namespace Go.Proofs.YtbgimajbehodnaaGreatDoor
open Go Go.RowKit
theorem sel_len (key : Rc → Int) (k : Int) (xs : List Rc) : (selS key k xs).length ≤ xs.length := List.length_filter_le _ _
end Go.Proofs.YtbgimajbehodnaaGreatDoor

namespace Go.Proofs.YtbgimajbehodnaaGreatDoor
open Go Go.RowKit
theorem peer_any (v : Value) (xs : List Rc) (hG : ROk xs) (hl : xs.length ≤ 1000000) (p : Int) (w : World) (hx : RdS w (fpL []) v 22 xs.length (vcs rcV xs)) (hw : OK w (fpL []) [] w) :
    Fn Tryz.prog 34 [v, .int .u8 p] [] w (fun _ : Option Addr × Nat => True) (fun y => .slice y.1 (selS (fun r : Rc => r.peer) p xs).length y.2) (fun y => [ownR (.slice y.1 (selS (fun r : Rc => r.peer) p xs).length y.2) 45 22 (selS (fun r : Rc => r.peer) p xs).length (vcs rcV (selS (fun r : Rc => r.peer) p xs))]) := by
  obtain ⟨al, cl, rfl, hcl, hml⟩ := hx.rd.form
  refine enterF Tryz.func34 rfl Tryz.ntmps34 rfl hw ?_
  refine WC.seq ?_
  refine WC.region ?_
  refine WL.y (Yl.assign rfl) rfl ?_
  refine WL.nil ?_
  refine WC.seq ?_
  refine WC.region ?_
  refine WL.y (Yl.assign rfl) rfl ?_
  refine WL.nil ?_
  refine WC.seq ?_
  refine WC.seq ?_
  refine WC.region ?_
  refine WL.y (Yl.assign rfl) rfl ?_
  refine WL.nil ?_
  refine WC.block ?_
  refine WC.view (fun w h => h.addNil 45 22) ?_
  refine WC.loop (α := Nat × Option Addr × Nat) (fun k => [(0, .slice al xs.length cl), (1, .int .u8 p), (5, .slice k.2.1 (selS (fun r : Rc => r.peer) p (xs.take k.1)).length k.2.2), (6, .int .i64 (k.1 : Int))]) (fun k => [ownR (.slice k.2.1 (selS (fun r : Rc => r.peer) p (xs.take k.1)).length k.2.2) 45 22 (selS (fun r : Rc => r.peer) p (xs.take k.1)).length (vcs rcV (selS (fun r : Rc => r.peer) p (xs.take k.1)))]) (fun k => k.1 ≤ xs.length) (fun k => xs.length - k.1) (0, none, 0) (Nat.zero_le _) ⟨(by repeat' constructor), _, (by repeat' constructor)⟩ ?_
  rintro ⟨i, ao, ca⟩ hi
  dsimp only at hi ⊢
  refine WC.seq ?_
  refine WC.seq ?_
  refine WC.region ?_
  refine WL.y (Yl.move rfl) rfl ?_
  refine WL.y (Yl.move rfl) rfl ?_
  refine WL.y (Yl.len un33 rfl) rfl ?_
  refine WL.y (Yl.lss rfl rfl) rfl ?_
  refine WL.nil ?_
  refine WC.condD rfl (fun g10 => ?_) (fun g10 => ?_)
  · refine WC.skip ?_
    refine WC.seq ?_
    refine WC.block ?_
    refine WC.seq ?_
    refine WC.region ?_
    have hil : i < xs.length := by omega
    obtain ⟨x, hx0⟩ : ∃ x, xs[i]? = some x := ⟨_, List.getElem?_eq_getElem hil⟩
    have hxo := hG.get hx0
    have h22 := Rc.cells_len hxo.len
    have hsn := selS_snoc (fun r : Rc => r.peer) p (xs.take i) x
    rw [take_snoc _ _ _ hx0] at hsn
    have hsl := sel_len (fun r : Rc => r.peer) p (xs.take i)
    rw [List.length_take] at hsl
    refine WL.y (Yl.move rfl) rfl ?_
    refine WL.y (Yl.move rfl) rfl ?_
    refine WL.y (Yl.index un33 sz45 rfl rfl (Reads.s hx) rfl (by omega)) rfl ?_
    refine WL.y (Yl.fieldE fo45_1 rfl vtR hG (Reads.s hx) hx0) rfl ?_
    refine WL.y (Yl.loadF on5 rfl vtR hG (Reads.s hx) hx0 (Rc.c16 hxo.len)) rfl ?_
    refine WL.y (Yl.move rfl) rfl ?_
    refine WL.y (Yl.eql rfl rfl) rfl ?_
    refine WL.nil ?_
    refine WC.condD rfl (fun g19 => ?_) (fun g19 => ?_)
    · refine WC.region ?_
      refine WL.y (Yl.move rfl) rfl ?_
      refine WL.y (Yl.move rfl) rfl ?_
      refine WL.y (Yl.move rfl) rfl ?_
      refine WL.y (Yl.index un33 sz45 rfl rfl (Reads.s hx) rfl (by omega)) rfl ?_
      refine WL.y (Yl.loadV (j := i) (u := x) vtR hG rfl (Reads.s hx) rfl hx0) rfl ?_
      refine WL.to (To.buildSlice (vs := [.agg x.cells.toArray]) un33 zs45 rfl rfl (by simp [Value.cells, h22]) (by decide) (by decide)) rfl ?_
      intro b25
      rw [flat1]
      rw [if_pos (show x.peer = p from g19)] at hsn
      refine WL.to (To.append sl33 rfl rfl (by repeat constructor) (Reads.of (rdRc hxo) (by repeat constructor)) (Rc.ones x) (show (selS (fun r : Rc => r.peer) p (xs.take i)).length + 1 = (selS (fun r : Rc => r.peer) p (xs.take (i + 1))).length by rw [hsn]; simp) (show vcs rcV (selS (fun r : Rc => r.peer) p (xs.take i)) ++ x.cells = vcs rcV (selS (fun r : Rc => r.peer) p (xs.take (i + 1))) by rw [hsn, vcs_app, vcs_one]; rfl) (by rw [hsn]; simp; unfold maxLen; omega) (by rw [hsn]; simp; omega)) rfl ?_
      rintro ⟨⟨ao26, c26⟩, hc26⟩
      dsimp only at hc26 ⊢
      refine WL.y (Yl.assign rfl) rfl ?_
      refine WL.nil ?_
      refine WC.region ?_
      refine WL.y (Yl.move rfl) rfl ?_
      refine WL.y (Yl.add rfl rfl (IntWalk.i64_in _ (by omega))) rfl ?_
      refine WL.y (Yl.assign rfl) rfl ?_
      refine WL.nil ?_
      exact ⟨rfl, (i + 1, ao26, c26), by dsimp only; omega, by dsimp only; omega, (by repeat' constructor), _, (by repeat' constructor)⟩
    · refine WC.skip ?_
      refine WC.region ?_
      refine WL.y (Yl.move rfl) rfl ?_
      refine WL.y (Yl.add rfl rfl (IntWalk.i64_in _ (by omega))) rfl ?_
      refine WL.y (Yl.assign rfl) rfl ?_
      refine WL.nil ?_
      rw [if_neg (show ¬ x.peer = p from g19)] at hsn
      exact ⟨rfl, (i + 1, ao, ca), by dsimp only; omega, by dsimp only; omega, by dsimp only; rw [hsn]; exact (by repeat' constructor), _, by dsimp only; rw [hsn]; exact (by repeat' constructor)⟩
  · refine WC.exit ?_
    refine WC.seq ?_
    refine WC.region ?_
    obtain rfl : i = xs.length := by omega
    rw [List.take_length]
    refine WL.y (Yl.move rfl) rfl ?_
    refine WL.y (Yl.assign rfl) rfl ?_
    refine WL.nil ?_
    refine WC.ret ?_
    repeat (with_reducible (first | refine peelT ?_ | refine peelB ?_ | refine peelTX ?_ | refine peelBX ?_ | refine peelBN ?_ | refine peelBO rfl ?_))
    exact ret1 (.inr rfl) Tryz.results34 rfl fun w' h => ⟨(ao, ca), trivial, rfl, h.sub (by repeat' constructor)⟩
end Go.Proofs.YtbgimajbehodnaaGreatDoor
