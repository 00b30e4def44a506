/- What is given, what is found out, by places: plain laws. -/
import Derived.Test.YtifhkjcimhhaiaaTerBa
namespace Go.Proofs.Ytifhkjcimhhaiaa
open Go Go.RowKit
/-- What is given so far, by terms and by places. -/
structure GI (P : List Nd) (m : List (Option Nat)) (i : Nat) (g : List (Option Tm)) (h : List Bool) : Prop where
  len : h.length = P.length
  le : g.length ≤ i ∧ g.length ≤ m.length
  is : ∀ t, some t ∈ g ↔ ∃ j, j < P.length ∧ cP h j ∧ trP P j = t
  lm : ∀ o ∈ g, Lm o
theorem cP_repl (n j : Nat) : ¬ cP (List.replicate n false) j := by
  unfold cP
  rw [List.getElem?_replicate]
  split <;> simp
theorem GI.start (P : List Nd) (m : List (Option Nat)) : GI P m 0 [] (List.replicate P.length false) :=
  ⟨by simp, ⟨Nat.le_refl _, Nat.zero_le _⟩, fun t => ⟨(fun h => nomatch h), fun ⟨j, _, h, _⟩ => (cP_repl _ _ h).elim⟩, (fun o h => nomatch h)⟩
theorem GI.skip {P : List Nd} {m : List (Option Nat)} {i : Nat} {g : List (Option Tm)} {h : List Bool} (hi : GI P m i g h) : GI P m (i + 1) g h := ⟨hi.len, ⟨Nat.le_succ_of_le hi.le.1, hi.le.2⟩, hi.is, hi.lm⟩
theorem GI.none {P : List Nd} {m : List (Option Nat)} {i : Nat} {g : List (Option Tm)} {h : List Bool} (hi : GI P m i g h) (him : i < m.length) : GI P m (i + 1) (g ++ [tmO1 P none]) h := by
  refine ⟨hi.len, by have := hi.le; simp; omega, fun t => ?_, fun o ho => ?_⟩
  · rw [← hi.is t]
    simp [tmO1]
  · rcases List.mem_append.1 ho with ho | ho
    · exact hi.lm o ho
    · rw [List.mem_singleton.1 ho]
      exact ⟨(fun t h => nomatch h), by show ([] : List Int).length ≤ _; simp⟩
theorem GI.some {P : List Nd} {m : List (Option Nat)} {i : Nat} {g : List (Option Tm)} {h : List Bool} (hw : Wk P m) (hi : GI P m i g h) (him : i < m.length) {j : Nat} (hj : some j ∈ m) : GI P m (i + 1) (g ++ [tmO1 P (some j)]) (h.set j true) := by
  have hjP := hw.md j hj
  have hjl : j < h.length := by rw [hi.len]; exact hjP
  refine ⟨by rw [List.length_set, hi.len], by have := hi.le; simp; omega, fun t => ?_, fun o ho => ?_⟩
  · have e : tmO1 P (Option.some j) = Option.some (trP P j) := rfl
    rw [e, List.mem_append, hi.is t, List.mem_singleton]
    constructor
    · rintro (⟨k, h1, h2, h3⟩ | h)
      · exact ⟨k, h1, (cP_set hjl).2 (.inl h2), h3⟩
      · injection h with h
        exact ⟨j, hjP, (cP_set hjl).2 (.inr rfl), h.symm⟩
    · rintro ⟨k, h1, h2, h3⟩
      rcases (cP_set hjl).1 h2 with h2 | rfl
      · exact .inl ⟨k, h1, h2, h3⟩
      · exact .inr (by rw [h3])
  · rcases List.mem_append.1 ho with ho | ho
    · exact hi.lm o ho
    · rw [List.mem_singleton.1 ho]
      exact hw.lm hj
theorem cl_congr {g g' : Tm → Prop} (h : ∀ t, g t ↔ g' t) (t : Tm) : ClP g t ↔ ClP g' t := ⟨cl_mono (fun t => (h t).1) t, cl_mono (fun t => (h t).2) t⟩
theorem canP_congr {g g' : Tm → Prop} (h : ∀ t, g t ↔ g' t) (t : Tm) : t.canP g ↔ t.canP g' := ⟨can_mono (fun t => (h t).1) t, can_mono (fun t => (h t).2) t⟩
theorem wLs_lm {l : List (Option Tm)} (h : ∀ o ∈ l, Lm o) : wLs l ≤ 80001 * l.length := by
  induction l with
  | nil => simp [wLs]
  | cons o l ih =>
    have h1 := (h o (by simp)).2
    have h2 := ih fun x hx => h x (by simp [hx])
    have e : wLs (o :: l) = wO o + wLs l := rfl
    rw [e, List.length_cons]
    unfold wO
    omega
theorem Lm.t {o : Option Tm} (h : Lm o) : LmT o := ⟨h.1, Nat.le_trans h.2 (by decide)⟩
/-! ### How many are found out -/
instance decCP (c : List Bool) (i : Nat) : Decidable (cP c i) := inferInstanceAs (Decidable (c[i]? = some true))
/-! ### Gone over -/
theorem ks_inj {m : MpT} (hm : MpG m) {o q : Option Tm} (ho : OkO o) (hq : OkO q) (e : (#[tmV o] : Array Value) = #[tmV q]) : o = q := by
  have : tmV o = tmV q := by simpa using e
  exact cells_inj ho hq this
theorem ks_nodup {m : MpT} (hm : MpG m) (hd : mnd m) : (ksY m).Nodup := by
  unfold ksY
  refine List.pairwise_map.2 (List.Pairwise.imp_of_mem (fun {p q} hp hq hne e => hne ?_) hd)
  exact ks_inj hm (hm p hp).1 (hm q hq).1 e
/-- What was gone over stands in the other map. -/
structure Fd (m s : MpT) (ys : List (Array Value)) : Prop where
  is : ksY s = ys
  nd : mnd s
  g : MpG s
theorem Fd.start (m : MpT) : Fd m [] [] := ⟨rfl, List.Pairwise.nil, (fun p h => nomatch h)⟩
theorem Fd.next {m s : MpT} {ys : List (Array Value)} (hm : MpG m) (hd : mnd m) (h : Fd m s ys) {x : Array Value} (hx : ∃ rest, (ys ++ x :: rest).Perm (ksY m)) : ∃ o, x = #[tmV o] ∧ GTm o ∧ mget s o = none ∧ Fd m (s ++ [(o, ())]) (ys ++ [x]) := by
  obtain ⟨rest, hp⟩ := hx
  have hxm : x ∈ ksY m := hp.mem_iff.1 (by simp)
  obtain ⟨p, hpm, e⟩ := List.mem_map.1 hxm
  have hn : (ys ++ x :: rest).Nodup := (hp.nodup_iff).2 (ks_nodup hm hd)
  have hxy : x ∉ ys := fun q => (List.nodup_append.1 hn).2.2 x q x (by simp) rfl
  have hno : mget s p.1 = none := by
    rw [mget_none]
    intro q hq he
    apply hxy
    rw [← h.is, ← e, ← he]
    exact List.mem_map.2 ⟨q, hq, rfl⟩
  refine ⟨p.1, e.symm, hm p hpm, hno, ?_, ?_, fun q hq => ?_⟩
  · unfold ksY
    rw [List.map_append, ← e]
    show ksY s ++ [_] = _
    rw [h.is]
  · refine List.pairwise_append.2 ⟨h.nd, List.pairwise_singleton _ _, fun a ha b hb => ?_⟩
    rw [List.mem_singleton.1 hb]
    exact mget_none.1 hno a ha
  · rcases List.mem_append.1 hq with hq | hq
    · exact h.g q hq
    · rw [List.mem_singleton.1 hq]; exact hm p hpm
theorem Fd.done {m s : MpT} {ys : List (Array Value)} (hm : MpG m) (h : Fd m s ys) (hp : ys.Perm (ksY m)) : s.length = m.length ∧ ∀ t : Tm, t.ok → ((mget s (some t)).isSome = true ↔ inM m t) := by
  have hp2 : (ksY s).Perm (ksY m) := by rw [h.is]; exact hp
  refine ⟨by have := hp2.length_eq; simpa [ksY] using this, fun t ht => ?_⟩
  have hto : OkO (some t) := fun u e => by cases e; exact ht
  have mem : ∀ (m : MpT), MpG m → (inM m t ↔ (#[tmV (some t)] : Array Value) ∈ ksY m) := by
    intro m hm
    rw [inM_iff]
    constructor
    · rintro ⟨p, hp, e⟩
      exact List.mem_map.2 ⟨p, hp, by rw [e]⟩
    · intro q
      obtain ⟨p, hp, e⟩ := List.mem_map.1 q
      exact ⟨p, hp, ks_inj hm (hm p hp).1 hto e⟩
  show inM s t ↔ _
  rw [mem s h.g, mem m hm]
  exact hp2.mem_iff
end Go.Proofs.Ytifhkjcimhhaiaa
