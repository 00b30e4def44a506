/- Maps gone over in an order that is drawn: general lemmas of this claim's own, about no program in particular. -/
import Derived.Test.YtbgimajbehodnaaGreatDoorLibK
import Derived.Maps.Range
namespace Go.Proofs.YtbgimajbehodnaaGreatDoor
open Go Go.RowKit Go.MapKept Go.ChangeMaps
set_option linter.unusedSectionVars false
section
variable {κ α : Type} [DecidableEq κ] {kv : κ → Value} {vv : α → Value} {b r : Nat} {m : List (κ × α)} {done : List Nat}
/-- Block r goes over the map in block b: the entries at the places in done came, in this order. -/
def rngR (kv : κ → Value) (vv : α → Value) (b r : Nat) (m : List (κ × α)) (done : List Nat) : Res where
  fp := fun k => k = b ∨ k = r
  wr := fun k => k = r
  sub := fun _ h => .inr h
  ok := fun w => ∃ es clock since seen c0, w.heap[b]? = some (.map es clock) ∧ es.toList.map (fun e => (e.key, e.val)) = ents kv vv m ∧ Stamped es clock ∧ w.heap[r]? = some (.mapIter (some b) since seen c0) ∧ (∀ x ∈ es.toList, x.born < since) ∧ since ≤ c0 ∧ since ≤ clock ∧
    (∀ j e, es.toList[j]? = some e → seen.contains e.born = decide (j ∈ done)) ∧ (∀ j, done.getLast? = some j → ∃ (e : MapEntry) (s' : Array Nat), es.toList[j]? = some e ∧ seen = s'.push e.born ∧ c0 = clock)
  lt := fun w ⟨es, clock, since, seen, c0, h1, _, _, h4, _⟩ k hk => by
    rcases hk with rfl | rfl
    · exact lt_of_heap h1
    · exact lt_of_heap h4
  st := fun w w' D ⟨es, clock, since, seen, c0, h1, h2, h3, h4, h5⟩ hc hd => ⟨es, clock, since, seen, c0, hc.heap h1 (hd b (.inl rfl)), h2, h3, hc.heap h4 (hd r (.inr rfl)), h5⟩
theorem set_same {w : World} {r : Nat} {o o' : Obj} (h : w.heap[r]? = some o') : (setBlock w r o).heap[r]? = some o := by
  simp [setBlock, lt_of_heap h]
theorem set_other {w : World} {r i : Nat} {o : Obj} (h : i ≠ r) : (setBlock w r o).heap[i]? = w.heap[i]? := by
  simp only [setBlock]
  rw [Array.getElem?_setIfInBounds]
  split
  · rename_i e
    exact absurd e.symm h
  · rfl
structure NxS (m : List (κ × α)) (done : List Nat) where
  o : Option Nat
  some_ok : ∀ j, o = some j → ∃ p, m[j]? = some p ∧ j ∉ done
  none_ok : o = none → ∀ j, j < m.length → j ∈ done
def nxA (kv : κ → Value) (vv : α → Value) (m : List (κ × α)) (o : Option Nat) : Array Value :=
  match o with
  | none => #[.bool false]
  | some j => match m[j]? with
    | none => #[.bool true]
    | some p => #[.bool true, kv p.1, vv p.2]
def nxV (kv : κ → Value) (vv : α → Value) (m : List (κ × α)) (o : Option Nat) : Value := .tuple (nxA kv vv m o)
theorem nx_get (o : Option Nat) : (nxA kv vv m o)[0]? = some (.bool o.isSome) := by
  unfold nxA
  cases o with
  | none => rfl
  | some j =>
    dsimp only
    split <;> rfl
/-- Places that came, each once: the others are left. -/
theorem left_of {n : Nat} {l : List Nat} (hn : l.Nodup) (hb : ∀ x ∈ l, x < n) : ∃ rest, (l ++ rest).Perm (List.range n) := by
  refine ⟨(List.range n).filter (fun x => decide (x ∉ l)), ?_⟩
  refine (List.perm_ext_iff_of_nodup ?_ List.nodup_range).2 (fun x => ?_)
  · refine List.nodup_append.2 ⟨hn, List.nodup_range.filter _, fun a ha b hb' e => ?_⟩
    subst e
    simp at hb'
    exact hb'.2 ha
  · simp
    constructor
    · rintro (h | h)
      · exact hb x h
      · exact h.1
    · intro h
      by_cases hx : x ∈ l
      · exact .inl hx
      · exact .inr ⟨h, hx⟩
theorem done_le {n : Nat} {l : List Nat} (hn : l.Nodup) (hb : ∀ x ∈ l, x < n) : l.length ≤ n := by
  obtain ⟨rest, h⟩ := left_of hn hb
  have := h.length_eq
  rw [List.length_append, List.length_range] at this
  omega
variable {c : Cx} {env : Env} {ds : List Deferred} {H F : List Res} {dst : Option Tmp} {ty : TypeId} {pos : String} {af : Array Edge} {g : Option (Nat × Bool)}
theorem To.nextM {x : Operand} (hx : ev env x = some (.pointer (some ⟨r, 0, none⟩))) (tk : Take1 H (rngR kv vv b r m done) F) :
    To c env ds H ⟨dst, .next x false, ty, pos, af, g⟩ (fun y : NxS m done => nxV kv vv m y.o) (fun y => rngR kv vv b r m (done ++ y.o.toList) :: F) := fun a w ha hw => by
  obtain ⟨es, clock, since, seen, c0, h1, h2, h3, h4, h5, h6, h7, h8, h9⟩ := hw.get tk
  have hlen : es.toList.length = m.length := by have := congrArg List.length h2; simpa [ents] using this
  rcases run_next_at (P := c.P) w ty r b since c0 seen es clock h4 h1 h5 h6 with ⟨k1, k2⟩ | ⟨e, k1, w1, k2, k3⟩
  · refine ⟨⟨none, fun j h => (nomatch h), fun _ j hj => ?_⟩, w, by simp [execOp, ha.ev hx, k2, nxV, nxA], by simpa using hw.perm tk.perm⟩
    have hj' : j < es.toList.length := by omega
    have := h8 j _ (List.getElem?_eq_getElem hj')
    by_cases hjd : j ∈ done
    · exact hjd
    · exfalso
      rw [decide_eq_false hjd] at this
      have hm : es.toList[j] ∈ (leftOf es seen).toList := by
        unfold leftOf
        simp only [Array.toList_filter, List.mem_filter]
        exact ⟨List.getElem_mem _, by rw [this]; rfl⟩
      have h0 : (leftOf es seen).toList = [] := by
        apply List.eq_nil_of_length_eq_zero
        simpa using k1
      rw [h0] at hm
      cases hm
  · unfold leftOf at k1
    simp only [Array.toList_filter, List.mem_filter] at k1
    obtain ⟨ke, ks⟩ := k1
    obtain ⟨j, hj, hje⟩ := List.getElem_of_mem ke
    have hje' : es.toList[j]? = some e := by rw [List.getElem?_eq_getElem hj, hje]
    have hjm : j < m.length := by omega
    have hp : m[j]? = some m[j] := List.getElem?_eq_getElem hjm
    have hev : (e.key, e.val) = (kv m[j].1, vv m[j].2) := by
      have e1 : (es.toList.map (fun e => (e.key, e.val)))[j]? = some (e.key, e.val) := by rw [List.getElem?_map, hje']; rfl
      rw [h2] at e1
      unfold ents at e1
      rw [List.getElem?_map, hp] at e1
      exact (Option.some.inj e1).symm
    have hnd : j ∉ done := by
      intro hd
      have := h8 j e hje'
      rw [decide_eq_true hd] at this
      rw [this] at ks
      cases ks
    have hb1 : w1.heap = w.heap := by rcases k2 with rfl | rfl <;> rfl
    have hst := (stamped_iff es clock).1 h3
    refine ⟨⟨some j, fun i h => by cases h; exact ⟨_, hp, hnd⟩, fun h => by cases h⟩, setBlock w1 r (.mapIter (some b) since (seen.push e.born) clock), ?_, ?_⟩
    · simp only [execOp, ha.ev hx, k3, nxV, nxA, hp]
      rw [Prod.mk.injEq] at hev
      simp [hev.1, hev.2, k3]
    · have hw1 : OK c.w0 c.S H w1 := by
        rcases k2 with rfl | rfl
        · exact hw
        · exact hw.drew
      have hr1 : w1.heap[r]? = some (.mapIter (some b) since seen c0) := by rw [hb1]; exact h4
      have hne : b ≠ r := fun e => by rw [e, h4] at h1; cases h1
      have hchg : Chg (rngR kv vv b r m done).wr w1 (setBlock w1 r (.mapIter (some b) since (seen.push e.born) clock)) := ⟨rfl, rfl, rfl, by simp [setBlock], fun i _ hi => set_other (fun e => hi e)⟩
      refine hw1.turnG tk hchg ⟨es, clock, since, seen.push e.born, clock, ?_, h2, h3, set_same hr1, h5, h7, h7, ?_, ?_⟩ (fun k hk => .inl hk) (fun k hk => .inl hk)
      · rw [set_other hne, hb1]; exact h1
      · intro i e' hi
        have h0 := h8 i e' hi
        simp only [Option.toList_some, List.mem_append, List.mem_singleton]
        rw [Array.contains_push, h0]
        by_cases hij : i = j
        · subst hij
          rw [hje'] at hi
          cases hi
          simp
        · have hbn : e'.born ≠ e.born := fun hb => hij (by
            have n1 : (es.toList.map (·.born))[i]? = some e'.born := by rw [List.getElem?_map, hi]; rfl
            have n2 : (es.toList.map (·.born))[j]? = some e.born := by rw [List.getElem?_map, hje']; rfl
            rw [hb] at n1
            have hi' := (List.getElem?_eq_some_iff.1 n1).1
            exact (List.getElem?_inj hi' hst.2.1).1 (n1.trans n2.symm))
          simp [hbn, hij]
      · intro i hi
        rw [Option.toList_some, List.getLast?_append] at hi
        simp at hi
        subst hi
        exact ⟨e, seen, hje', rfl, rfl⟩
/-- range m, of a map that is only read. -/
theorem To.rangeM {t k e : TypeId} {x : Operand} (ht : c.P.underlying t = some (.map k e)) (hx : ev env x = some (.map (some b))) (tk : Take1 H (roR (mapR kv vv b m)) F) :
    To c env ds H ⟨dst, .range t x, ty, pos, af, g⟩ (fun r : Nat => .pointer (some ⟨r, 0, none⟩)) (fun r => rngR kv vv b r m [] :: H) := fun a w ha hw => by
  obtain ⟨es, clock, h1, h2, h3⟩ := hw.get tk
  have hlt := lt_of_heap h1
  have hw1 := hw.ext (Chg.alloc noB w (.mapIter (some b) clock #[] clock))
  have hsz0 := hw.chg.size
  refine ⟨w.heap.size, w.alloc (.mapIter (some b) clock #[] clock), ?_, ?_⟩
  · simp [execOp, ha.ev hx, run_range_map w t k e b es clock ht h1]
  · have hd := hw.perm tk.perm
    refine ⟨hw1.chg, ?_, ?_, ?_, List.pairwise_cons.2 ⟨fun s hs => ⟨fun i hi hsi => ?_, fun i hi hsi => ?_⟩, hw1.dis⟩⟩
    · intro s hs
      rcases List.mem_cons.1 hs with rfl | hs
      · refine ⟨es, clock, clock, #[], clock, (Below.heap_alloc _ _ _ hlt).trans h1, h2, h3, World.alloc_heap_new w _, h3.1, Nat.le_refl _, Nat.le_refl _, fun j e' _ => by simp, fun j hj => by cases hj⟩
      · exact hw1.all s hs
    · intro s hs i hi hil
      rcases List.mem_cons.1 hs with rfl | hs
      · cases hi
        omega
      · exact hw1.loc s hs i hi hil
    · intro s hs i hi hil
      rcases List.mem_cons.1 hs with rfl | hs
      · rcases hi with rfl | rfl
        · exact hd.locF _ (List.mem_cons_self ..) _ rfl hil
        · omega
      · exact hw1.locF s hs i hi hil
    · cases hi
      have := s.lt w (hw.all s hs) _ hsi
      omega
    · rcases hi with rfl | rfl
      · have hm := tk.perm.mem_iff.1 hs
        rcases List.mem_cons.1 hm with rfl | hm
        · exact hsi.elim
        · exact ((List.pairwise_cons.1 hd.dis).1 s hm).2 _ rfl hsi
      · have := s.lt w (hw.all s hs) _ (s.sub _ hsi)
        omega
/-- The entry that came last. -/
theorem Yl.entryM {x : Operand} {j : Nat} {p : κ × α} (hx : ev env x = some (.pointer (some ⟨r, 0, none⟩))) (tk : Take1 H (rngR kv vv b r m (done ++ [j])) F) (hj : m[j]? = some p) :
    Yl c env ds H ⟨dst, .entry x, ty, pos, af, g⟩ (.tuple #[kv p.1, vv p.2]) := fun a w ha hw => by
  obtain ⟨es, clock, since, seen, c0, h1, h2, h3, h4, h5, h6, h7, h8, h9⟩ := hw.get tk
  obtain ⟨e, s', he, rfl, rfl⟩ := h9 j (by rw [List.getLast?_append]; rfl)
  have hev : (e.key, e.val) = (kv p.1, vv p.2) := by
    have e1 : (es.toList.map (fun e => (e.key, e.val)))[j]? = some (e.key, e.val) := by rw [List.getElem?_map, he]; rfl
    rw [h2] at e1
    unfold ents at e1
    rw [List.getElem?_map, hj] at e1
    exact (Option.some.inj e1).symm
  rw [Prod.mk.injEq] at hev
  have hrun := run_entry_at (P := c.P) w r b since s' es _ e h4 h1 (List.mem_of_getElem? he) h3.2.1
  simp [execOp, ha.ev hx, hrun, hev.1, hev.2]
end
end Go.Proofs.YtbgimajbehodnaaGreatDoor
