/- Regions that draw their order, within a round: general lemmas of this claim's own, about no program in particular. -/
import Derived.Test.YtfobhdmhjjafcaaGreatDoorRRLibB
import Derived.DataShut
import Derived.Deep.OwnRows
import Derived.Laws.CopyRow
namespace Go.Proofs.YtfobhdmhjjafcaaGreatDoorRR
open Go Go.RowKit

section
variable {P : Program} {ops : Array Oper} {md : Region.Mode} {Q : Exit → Act → World → Prop} {ro : Option Nat} {n : Nat}

/-- No operation is a defer statement. -/
def noDefer (ops : Array Oper) : Bool := ops.toList.all fun o => match o.op with | .defer _ => false | _ => true

theorem noDefer_spec (h : noDefer ops = true) {i : Nat} {o : Oper} (ho : ops[i]? = some o) : ∀ c, o.op ≠ .defer c := by
  intro c hc
  have h1 := List.all_eq_true.1 h o (by simpa using (Array.mem_of_getElem? ho))
  simp [hc] at h1

theorem rowsIn_fw {row : String} {args : Array Value} {w : World} {R : Value → World → Prop} (h : Rows P row args w R) : RowsIn (FW ro) n P row args w R := by
  intro c cs _
  obtain ⟨v, w', hr, hs⟩ := h c cs
  exact ⟨v, w', hr, (stepsIn_wide (P := P)).2 hs⟩

theorem oper_in {o : Oper} (hd : ∀ c, o.op ≠ .defer c) (hQ : ∀ a w, Q .outgrown a w → False) {a : Act} {w : World} {K K' : Act → World → Prop} (hK : ∀ a w, K a w → K' a w) (h : o.wp P a w K Q) : o.wpIn (FW ro) n P a w K' Q := by
  unfold Oper.wp at h
  unfold Oper.wpIn
  refine ⟨fun _ _ => trivial, ?_⟩
  rw [Oper.semAt_plain (FW ro) _ _ hd]
  generalize (execOp a.eval o).run P w = r at *
  cases r with
  | ok x w' =>
    cases x with
    | value v => exact hK _ _ h
    | skip => exact hK _ _ h
    | defer d => exact hK _ _ h
    | enter f args =>
      refine ⟨fun h => by simp at h, (callsIn_fw (ro := ro) (n := n - 1) (Calls.mono h ?_))⟩
      intro e w'' he
      cases e with
      | returned v => exact hK _ _ he
      | panicked ch => exact he
      | outgrown => exact he
    | row r args => exact ⟨fun h => by simp at h, rowsIn_fw (Rows.mono h (fun _ _ he => hK _ _ he))⟩
    | _ => exact h.elim
  | halt x w' => cases x <;> exact h

theorem wpOp_in (hnd : noDefer ops = true) (hQ : ∀ a w, Q .outgrown a w → False) {i : Nat} {a : Act} {w : World} {K K' : Act → World → Prop} (hK : ∀ a w, K a w → K' a w) (h : wpOp P ops Q i K a w) : wpOpIn (FW ro) n P ops Q i K' a w := by
  unfold wpOp at h
  unfold wpOpIn
  cases ho : ops[i]? with
  | none => rw [ho] at h; exact hK _ _ h
  | some o =>
    simp only [ho] at h ⊢
    split
    · rename_i hw
      rw [if_pos hw] at h
      rcases h with h | ⟨_, a', w', h⟩
      · exact oper_in (noDefer_spec hnd ho) hQ hK h
      · exact (hQ _ _ h).elim
    · rename_i hw
      rw [if_neg hw] at h
      exact ⟨fun _ _ => trivial, hK _ _ h⟩

theorem wpAny_in (hnd : noDefer ops = true) (hQ : ∀ a w, Q .outgrown a w → False) : ∀ (fuel : Nat) (listed : Array Bool) (a : Act) (w : World), wpAny P md ops Q fuel listed a w → wpAnyIn (FW ro) n P md ops Q fuel listed a w
  | 0, _, _, _, h => h
  | _ + 1, _, _, _, h => ⟨h.1, fun i hi => wpOp_in hnd hQ (fun a w => wpAny_in hnd hQ _ _ a w) (h.2 i hi)⟩

theorem wpIn_draw {id : Nat} {a : Act} {w : World} (hm : P.follows .mixedOrders = true) (hnd : noDefer ops = true) (hQ : ∀ a w, Q .outgrown a w → False)
    (h : wpAny P .any ops Q ops.size (Array.replicate ops.size false) a { w with drawn := w.drawn + 1 }) : (Code.region id ops true).wpIn (FW ro) n P Q a w :=
  wpIn_region_any hm (wpAny_in hnd hQ _ _ _ _ h)

theorem wpIn_region_quiet_lit {id : Nat} {a : Act} {w : World} {l : List Oper} (hQ : ∀ a w, Q .outgrown a w → False) (hm : P.follows .mixedOrders = true) (hB : (Region.lexB .any l.toArray && noDefer l.toArray) = true)
    (h : wpQuiet P l.toArray (fun w' => ∃ n, w' = w.drewN n) (fun a' => ∀ w', (∃ n, w' = w.drewN n) → Q .normal a' w') l a) : (Code.region id l.toArray true).wpIn (FW ro) n P Q a w := by
  simp only [Region.lexB, Bool.and_eq_true] at hB
  refine wpIn_draw hm hB.2 hQ (wpAny_of_quiet (C := fun w' => ∃ n, w' = w.drewN n) (Q := fun a' => ∀ w', (∃ n, w' = w.drewN n) → Q .normal a' w') (fun _ w' hw' h => h w' hw') _ _ _ _ ⟨1, rfl⟩ ?_)
  have := wpAnyQ_lex (C := fun w' => ∃ n, w' = w.drewN n) (md := .any) hB.1.1 l 0 (Array.replicate l.toArray.size false) a (by simp) (by simpa using hB.1.2) (by simpa using h)
  simpa using this

theorem wpIn_region_still_lit {id : Nat} {a : Act} {w : World} {l : List Oper} (hQ : ∀ a w, Q .outgrown a w → False) (hm : P.follows .mixedOrders = true) (hB : (Region.lexB .any l.toArray && noDefer l.toArray) = true)
    (h : wpStill P l.toArray { w with drawn := w.drawn + 1 } (fun a' => Q .normal a' { w with drawn := w.drawn + 1 }) l a) : (Code.region id l.toArray true).wpIn (FW ro) n P Q a w := by
  simp only [Region.lexB, Bool.and_eq_true] at hB
  refine wpIn_draw hm hB.2 hQ (wpAny_of_still (Q := fun a' => Q .normal a' { w with drawn := w.drawn + 1 }) (fun _ h => h) _ _ _ ?_)
  have := wpAnyS_lex (md := .any) hB.1.1 l 0 (Array.replicate l.toArray.size false) a (by simp) (by simpa using hB.1.2) h
  simpa using this

theorem wpIn_region_still_tail {id : Nat} {a : Act} {w : World} {l : List Oper} (m : Nat) (hQ : ∀ a w, Q .outgrown a w → False) (hm : P.follows .mixedOrders = true) (hB : (Region.lexTailB .any l.toArray m && noDefer l.toArray) = true)
    (h : wpStill P l.toArray { w with drawn := w.drawn + 1 } (fun a' => wpList P l.toArray Q (l.drop m) a' { w with drawn := w.drawn + 1 }) (l.take m) a) : (Code.region id l.toArray true).wpIn (FW ro) n P Q a w := by
  simp only [Region.lexTailB, Bool.and_eq_true, decide_eq_true_eq] at hB
  obtain ⟨⟨⟨⟨⟨hsel, hn⟩, hs⟩, hc⟩, hlex⟩, hnd⟩ := hB
  have hn' : m < l.length := by simpa using hn
  have htl : (l.take m).length = m := by simp; omega
  have hdl : (l.drop m).length = l.toArray.size - m := by simp
  have inv0 : HeadInv .any l.toArray m (Array.replicate l.toArray.size false) :=
    ⟨by simp, fun j oj _ hl => (by rw [getD_replicate_false] at hl; cases hl), fun t _ ht => getD_in (by simpa using ht) (getD_replicate_false _ _)⟩
  have H := wpAnyL_lex (md := .any) (g := l.toArray.size - m) hsel hs hc hn (l.take m) 0 _ a (fun j hj => by
    have hj' : j < m := by rw [htl] at hj; exact hj
    simp [hj']) (by simpa using htl) inv0 (by rw [htl]; exact hlex) h
  refine wpIn_draw hm hnd hQ ?_
  have := wpAny_of_head (Q' := Q) (g := l.toArray.size - m) (fun listed a' hL => by
    have := wpAny_of_seq (md := .any) (Q' := Q) (l.drop m) m listed a' { w with drawn := w.drawn + 1 } (fun j => by simp [List.getElem?_drop]) (by rw [hdl]; exact hL.1) hL.2
    rwa [hdl] at this) _ _ _ H
  rw [htl, show m + (l.toArray.size - m) = l.toArray.size by omega] at this
  exact this
end

end Go.Proofs.YtfobhdmhjjafcaaGreatDoorRR

namespace Go.Proofs.YtfobhdmhjjafcaaGreatDoorRR
open Go Go.RowKit

theorem getD_ne {xs ys : List Int} {k : Nat} {x y : Int} (hx : xs.getD k 0 = x) (hy : ys.getD k 0 = y) (h : x ≠ y) : xs ≠ ys := by
  rintro rfl; exact h (hx.symm.trans hy)

theorem list_eq_of {xs ys : List Int} (h : xs.length = ys.length) (hp : ∀ i, i < xs.length → xs.getD i 0 = ys.getD i 0) : xs = ys := by
  apply List.ext_getElem h
  intro i h1 h2
  have := hp i h1
  simpa [h1, h2] using this

/-- A cell of a slice of numbers, by its place. -/
theorem Rd.at {w : World} {k : IntKind} {ao : Option Addr} {n cap : Nat} {xs : List Int} (h : Rd w 1 (.slice ao n cap) n (ints k xs)) (i : Nat) (hi : i < n) :
    ∃ b off x, ao = some ⟨b, off, none⟩ ∧ xs.getD i 0 = x ∧ xs[i]? = some x ∧ w.cell? ⟨b, off + i, none⟩ = some (.int k x) := by
  have hl := h.1
  rw [ints_length, Nat.mul_one] at hl
  obtain ⟨b, off, rfl, _, _, hc⟩ := h.cell (by omega)
  exact ⟨b, off, _, rfl, rfl, by simp [show i < xs.length by omega], hc i _ (ints_get k xs i (by omega))⟩

/-- A row that came in can be read. -/
theorem rd_of_row {k : IntKind} {w : World} {a : Option Addr} {len cap : Nat} {zs : List Int} (h : (a = none ∧ len = 0 ∧ cap = 0 ∧ zs = []) ∨
    ∃ x, a = some x ∧ len ≤ cap ∧ cap ≤ maxLen ∧ zs.length = cap ∧ (∀ i, i < zs.length → w.cell? (x.add i) = some (.int k (zs.getD i 0))) ∧ ∀ n ∈ zs, (Lit.int k n).wf = true) :
    ∃ xs : List Int, xs.length = len ∧ Rd w 1 (.slice a xs.length cap) xs.length (ints k xs) ∧ ∀ n ∈ xs, (Lit.int k n).wf = true := by
  rcases h with ⟨rfl, rfl, rfl, rfl⟩ | ⟨x, rfl, hl, hm, hz, hc, hw⟩
  · exact ⟨[], rfl, Rd.nil _ _, fun n hn => by cases hn⟩
  · have hlen : (zs.take len).length = len := by simp; omega
    refine ⟨zs.take len, hlen, ⟨by simp [ints], .inr ⟨x, cap, rfl, by omega, hm, fun j u hj => ?_⟩⟩, fun n hn => hw n (List.mem_of_mem_take hn)⟩
    have hj2 : j < len := by
      have := (List.getElem?_eq_some_iff.1 hj).1
      rw [ints_length] at this; omega
    have hj3 : j < zs.length := by omega
    have e : u = .int k (zs.getD j 0) := by
      rw [ints_get _ _ _ (by omega)] at hj
      have := Option.some.inj hj
      rw [← this]
      simp [hj2, hj3]
    have hs : x.spot = none := by
      have h0 := hc 0 (by omega)
      have e0 : x.add 0 = x := by simp [Addr.add]
      rw [e0] at h0
      unfold World.cell? at h0
      split at h0
      · split at h0
        · cases h0
        · rename_i hn; cases hsp : x.spot with
          | none => rfl
          | some q => rw [hsp] at hn; simp at hn
      · cases h0
    refine ⟨hs, ?_⟩
    have := hc j hj3
    obtain ⟨b, off, sp⟩ := x
    cases hs
    rw [Addr.add_lit] at this
    rw [e]; exact this

theorem wf_u64 {n : Int} (h : (Lit.int .u64 n).wf = true) : 0 ≤ n ∧ n < 18446744073709551616 := by
  have h1 := (Lit.wf_int_iff .u64 n).1 h
  have e1 : IntKind.u64.min = 0 := by decide
  have e2 : IntKind.u64.max = 18446744073709551615 := by decide
  rw [e1, e2] at h1
  omega
end Go.Proofs.YtfobhdmhjjafcaaGreatDoorRR

namespace Go.Proofs.YtfobhdmhjjafcaaGreatDoorRR
open Go Go.RowKit

/-- A row of numbers that is owned: a cell, that it isn't frozen, and what a store there leaves. -/
theorem Sown.slot {w : World} {e : TypeId} {k : IntKind} {b off n cap : Nat} {xs : List Int} (h : Sown w e 1 (.slice (some ⟨b, off, none⟩) n cap) n (ints k xs)) (i : Nat) (hi : i < n) :
    w.cell? ⟨b, off + i, none⟩ = some (.int k (xs.getD i 0)) ∧ w.frozen? ⟨b, off + i, none⟩ = false ∧
      ∀ y, Sown (w.setCell ⟨b, off + i, none⟩ (.int k y)) e 1 (.slice (some ⟨b, off, none⟩) n cap) n (ints k (xs.set i y)) := by
  have hl := h.1
  rw [ints_length, Nat.mul_one] at hl
  obtain ⟨b', off', cur, he, hb, h1, h2, h3, h4⟩ := h.cell (by omega)
  cases he
  refine ⟨?_, frozen_of_row w b _ cur e hb, fun y => ⟨by rw [ints_length, List.length_set]; omega, .inr ⟨b, off, cap, cur.setIfInBounds (off + i) (.int k y), rfl, heap_setCell_same w b _ cur e _ hb, h1, h2, by simpa using h3, ?_⟩⟩⟩
  · rw [cell_of_row w b _ cur e (0, 0) hb]
    exact h4 i _ (ints_get k xs i (by omega))
  · intro j u hj
    rw [ints, List.getElem?_map, List.getElem?_set] at hj
    rw [Array.getElem?_setIfInBounds]
    by_cases hij : i = j
    · subst hij
      rw [if_pos rfl, if_pos (by omega)] at hj
      rw [if_pos rfl, if_pos (by omega)]
      simpa using hj
    · rw [if_neg hij] at hj
      rw [if_neg (by omega)]
      exact h4 j u (by simpa [ints] using hj)

/-- 'make([]T, n)', T of one cell. -/
theorem wpList_mk {P : Program} (w : World) {ops : Array Oper} {rest : List Oper} {o : Oper} {a : Act} {Q : Exit → Act → World → Prop} {t e : TypeId} {bytes : Nat} {k : IntKind} (hT : SlT P t e (.int k 0) 1 bytes)
    (hinfo : (P.info? e).map (fun i => (i.zero, i.size, i.bytes)) = some (some (.int k 0), 1, bytes))
    (hg : o.guard = none) (l c : Operand) (hop : o.op = Op.makeSlice t l c) (n : Nat) (hl : a.eval l = .int .i64 (n : Int)) (hc : a.eval c = .int .i64 (n : Int)) (hbytes : bytes * n ≤ 281474976710656) (h63 : n ≤ maxLen)
    (hK : ∀ w', Sown w' e 1 (.slice (some ⟨w.heap.size, 0, none⟩) n n) n (ints k (List.replicate n 0)) → Chg noB w w' → wpList P ops Q rest (a.put o.dst (.slice (some ⟨w.heap.size, 0, none⟩) n n)) w') :
    wpList P ops Q (o :: rest) a w := by
  refine wpList_plain hg fun K hK' => ?_
  have hrun := run_make_row' (P := P) t e (.int k 0) bytes hT.u hinfo rfl .i64 .i64 n hbytes (by unfold maxLen at h63; omega) w
  unfold Oper.wp
  simp [execOp, hop, hl, hc, hrun, Result.andThen]
  refine hK' _ _ (hK _ ?_ (Chg.alloc _ _ _))
  have hm : (madeCells #[.int k 0] n).toList = ints k (List.replicate n 0) := by
    apply List.ext_getElem
    · simp [madeCells, ints]
    · intro i h1 h2
      simp [madeCells, ints, Nat.mod_one]
  have := Sown.new w e 1 (madeCells #[.int k 0] n) n h63 (by rw [← Array.length_toList, hm, ints_length]; simp)
  rwa [hm] at this

/-- 'copy(x[:], s)' over the whole of a row. -/
theorem wpList_cp {P : Program} (w : World) {ops : Array Oper} {rest : List Oper} {o : Oper} {a : Act} {Q : Exit → Act → World → Prop} {dT sT elem : TypeId} (hgd : o.guard = none) (d s : Operand)
    (ho : o.op = .call { callee := .builtin .copy, args := #[d, s], argTypes := #[dT, sT] }) (hu : P.underlying dT = some (.slice elem)) (hsz : (P.info? elem).map (·.size) = some 1)
    {g n c1 sb so c2 : Nat} {cur : Array Value} {t : TypeId} {cs : List Value} (hd : a.eval d = .slice (some ⟨g, 0, none⟩) n c1) (hs : a.eval s = .slice (some ⟨sb, so, none⟩) n c2)
    (hg : w.heap[g]? = some (.cells cur t (0, 0))) (hcur : cur.size = n) (hr : Rd w 1 (.slice (some ⟨sb, so, none⟩) n c2) n cs) (h0 : 0 < n) (h1 : ∀ v ∈ cs, v.oneCell' = true)
    (h : ∀ w', w'.heap[g]? = some (.cells cs.toArray t (0, 0)) → Chg (oneB g) w w' → wpList P ops Q rest (a.put o.dst (goInt n)) w') : wpList P ops Q (o :: rest) a w := by
  have hl := hr.1
  rw [Nat.mul_one] at hl
  obtain ⟨b', o', he, _, _, hc⟩ := hr.cell (by omega)
  cases he
  have hrun := run_copy_row (P := P) w dT sT o.type elem g 0 n c1 ⟨sb, so, none⟩ n c2 cur t cs hu hsz hg (by simp [hl]) (fun j v hv => by rw [Addr.add_lit]; exact hc j v hv) (by omega) h1
  have e : cur.toList.take 0 ++ cs ++ cur.toList.drop (0 + cs.length) = cs := by
    rw [List.drop_of_length_le (by simp; omega)]; simp
  rw [e, hl] at hrun
  refine wpList_plain hgd fun K hK => ?_
  unfold Oper.wp execOp
  simp only [ho, resolve, invoke, builtin, Sem.run_bind, Sem.run_pure, Result.andThen_ok, List.map_toArray, List.map_cons, List.map_nil, hd, hs, hrun]
  refine hK _ _ (h _ (setRow_heap w g cur _ t _ hg) ⟨rfl, rfl, rfl, by simp, fun k _ hk => ?_⟩)
  show (w.setRow g cs.toArray).heap[k]? = w.heap[k]?
  simp only [World.setRow, Array.getElem?_modify]
  rw [if_neg (fun e => hk (by rw [← e]; rfl))]
end Go.Proofs.YtfobhdmhjjafcaaGreatDoorRR
