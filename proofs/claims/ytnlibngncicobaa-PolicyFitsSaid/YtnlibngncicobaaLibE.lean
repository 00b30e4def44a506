/- Rows that are owned and written to; rows that are made. -/
import Derived.Test.YtnlibngncicobaaLibD
import Derived.Deep.OwnRows
import Derived.Laws.CopyRow
namespace Go.Proofs.Ytnlibngncicobaa
open Go Go.RowKit

/-- A row of numbers that is owned: a cell, that it isn't frozen, and what a store there leaves. -/
theorem Sown.slot {w : World} {e : TypeId} {k : IntKind} {b off n cap : Nat} {xs : List Int} (h : Sown w e 1 (.slice (some ⟨b, off, none⟩) n cap) n (ints k xs)) (i : Nat) (hi : i < n) :
    w.cell? ⟨b, off + i, none⟩ = some (.int k (xs.getD i 0)) ∧ w.frozen? ⟨b, off + i, none⟩ = false ∧
      ∀ y, Sown (w.setCell ⟨b, off + i, none⟩ (.int k y)) e 1 (.slice (some ⟨b, off, none⟩) n cap) n (ints k (xs.set i y)) := by
  have hl := h.1
  rw [ints_length, Nat.mul_one] at hl
  obtain ⟨b', off', cur, he, hb, h1, h2, h3, h4⟩ := h.cell (by omega)
  cases he
  refine ⟨?_, frozen_of_row w b _ cur e hb, fun y => ⟨by rw [ints_length, List.length_set]; omega, .inr ⟨b, off, cap, cur.setIfInBounds (off + i) (.int k y), rfl, heap_setCell_same w b _ cur e _ hb, h1, h2, by simpa using h3, ?_⟩⟩⟩
  · rw [cell_of_row w b _ cur e (0, 0) hb]
    exact h4 i _ (ints_get k xs i (by omega))
  · intro j u hj
    rw [ints, List.getElem?_map, List.getElem?_set] at hj
    rw [Array.getElem?_setIfInBounds]
    by_cases hij : i = j
    · subst hij
      rw [if_pos rfl, if_pos (by omega)] at hj
      rw [if_pos rfl, if_pos (by omega)]
      simpa using hj
    · rw [if_neg hij] at hj
      rw [if_neg (by omega)]
      exact h4 j u (by simpa [ints] using hj)

/-- 'make([]T, n)', T of one cell. -/
theorem wpList_mk {P : Program} (w : World) {ops : Array Oper} {rest : List Oper} {o : Oper} {a : Act} {Q : Exit → Act → World → Prop} {t e : TypeId} {bytes : Nat} {k : IntKind} (hT : SlT P t e (.int k 0) 1 bytes)
    (hinfo : (P.info? e).map (fun i => (i.zero, i.size, i.bytes)) = some (some (.int k 0), 1, bytes))
    (hg : o.guard = none) (l c : Operand) (hop : o.op = Op.makeSlice t l c) (n : Nat) (hl : a.eval l = .int .i64 (n : Int)) (hc : a.eval c = .int .i64 (n : Int)) (hbytes : bytes * n ≤ 281474976710656) (h63 : n ≤ maxLen)
    (hK : ∀ w', Sown w' e 1 (.slice (some ⟨w.heap.size, 0, none⟩) n n) n (ints k (List.replicate n 0)) → Chg noB w w' → wpList P ops Q rest (a.put o.dst (.slice (some ⟨w.heap.size, 0, none⟩) n n)) w') :
    wpList P ops Q (o :: rest) a w := by
  refine wpList_plain hg fun K hK' => ?_
  have hrun := run_make_row' (P := P) t e (.int k 0) bytes hT.u hinfo rfl .i64 .i64 n hbytes (by unfold maxLen at h63; omega) w
  unfold Oper.wp
  simp [execOp, hop, hl, hc, hrun, Result.andThen]
  refine hK' _ _ (hK _ ?_ (Chg.alloc _ _ _))
  have hm : (madeCells #[.int k 0] n).toList = ints k (List.replicate n 0) := by
    apply List.ext_getElem
    · simp [madeCells, ints]
    · intro i h1 h2
      simp [madeCells, ints, Nat.mod_one]
  have := Sown.new w e 1 (madeCells #[.int k 0] n) n h63 (by rw [← Array.length_toList, hm, ints_length]; simp)
  rwa [hm] at this

/-- 'copy(x[:], s)' over the whole of a row. -/
theorem wpList_cp {P : Program} (w : World) {ops : Array Oper} {rest : List Oper} {o : Oper} {a : Act} {Q : Exit → Act → World → Prop} {dT sT elem : TypeId} (hgd : o.guard = none) (d s : Operand)
    (ho : o.op = .call { callee := .builtin .copy, args := #[d, s], argTypes := #[dT, sT] }) (hu : P.underlying dT = some (.slice elem)) (hsz : (P.info? elem).map (·.size) = some 1)
    {g n c1 sb so c2 : Nat} {cur : Array Value} {t : TypeId} {cs : List Value} (hd : a.eval d = .slice (some ⟨g, 0, none⟩) n c1) (hs : a.eval s = .slice (some ⟨sb, so, none⟩) n c2)
    (hg : w.heap[g]? = some (.cells cur t (0, 0))) (hcur : cur.size = n) (hr : Rd w 1 (.slice (some ⟨sb, so, none⟩) n c2) n cs) (h0 : 0 < n) (h1 : ∀ v ∈ cs, v.oneCell' = true)
    (h : ∀ w', w'.heap[g]? = some (.cells cs.toArray t (0, 0)) → Chg (oneB g) w w' → wpList P ops Q rest (a.put o.dst (goInt n)) w') : wpList P ops Q (o :: rest) a w := by
  have hl := hr.1
  rw [Nat.mul_one] at hl
  obtain ⟨b', o', he, _, _, hc⟩ := hr.cell (by omega)
  cases he
  have hrun := run_copy_row (P := P) w dT sT o.type elem g 0 n c1 ⟨sb, so, none⟩ n c2 cur t cs hu hsz hg (by simp [hl]) (fun j v hv => by rw [Addr.add_lit]; exact hc j v hv) (by omega) h1
  have e : cur.toList.take 0 ++ cs ++ cur.toList.drop (0 + cs.length) = cs := by
    rw [List.drop_of_length_le (by simp; omega)]; simp
  rw [e, hl] at hrun
  refine wpList_plain hgd fun K hK => ?_
  unfold Oper.wp execOp
  simp only [ho, resolve, invoke, builtin, Sem.run_bind, Sem.run_pure, Result.andThen_ok, List.map_toArray, List.map_cons, List.map_nil, hd, hs, hrun]
  refine hK _ _ (h _ (setRow_heap w g cur _ t _ hg) ⟨rfl, rfl, rfl, by simp, fun k _ hk => ?_⟩)
  show (w.setRow g cs.toArray).heap[k]? = w.heap[k]?
  simp only [World.setRow, Array.getElem?_modify]
  rw [if_neg (fun e => hk (by rw [← e]; rfl))]
end Go.Proofs.Ytnlibngncicobaa
