/- The operations that make memory or write to it, over abstract states; functions and their contracts: general lemmas of this claim's own, about no program in particular. -/
import Derived.Test.YtcplbkbimpiioaaGreatDoorLibT
namespace Go.Proofs.YtcplbkbimpiioaaGreatDoor
open Go Go.RowKit

/-! ### New blocks -/

theorem OK.new {w0 : World} {S : Pm} {H : List Res} {w : World} (h : OK w0 S H w) (T : TypeId) (cs : List Value) : OK w0 S (blkR w.heap.size T cs :: H) (w.alloc (.cells cs.toArray T)) := by
  refine OK.upd (A := []) (B := [blkR w.heap.size T cs]) (F := H) h ?_
  exact OK.one (Chg.alloc _ _ _) (World.alloc_heap_new w _) (fun k hk hlt => by cases hk; omega) (fun k hk hlt => by cases hk; omega)

theorem OK.addNil {w0 : World} {S : Pm} {H : List Res} {w : World} (h : OK w0 S H w) (e size : Nat) : OK w0 S (ownR (.slice none 0 0) e size 0 [] :: H) w := by
  refine OK.upd (A := []) (B := [ownR (.slice none 0 0) e size 0 []]) (F := H) h ?_
  exact OK.one (Chg.refl _ _) (Sown.nil _ _ _) (fun k hk => hk.elim) (fun k hk => hk.elim)

/-- One resource is turned into another one. -/
theorem OK.turnG {w0 : World} {S : Pm} {H F : List Res} {w w' : World} {r r' : Res} (h : OK w0 S H w) (t : Take1 H r F) (hc : Chg r.wr w w') (hr : r'.ok w') (hw : ∀ k, r'.wr k → r.wr k ∨ w.heap.size ≤ k) (hf : ∀ k, r'.fp k → r.fp k ∨ w.heap.size ≤ k) : OK w0 S (r' :: F) w' := by
  refine OK.upd (A := [r]) (B := [r']) (F := F) (h.perm t.perm) ?_
  refine OK.one (hc.mono (fun k _ hk => ⟨r, List.mem_singleton.2 rfl, hk⟩)) hr (fun k hk hlt => ?_) (fun k hk hlt => ?_)
  · rcases hw k hk with h1 | h1
    · exact ⟨r, List.mem_singleton.2 rfl, h1⟩
    · omega
  · rcases hf k hk with h1 | h1
    · exact ⟨r, List.mem_singleton.2 rfl, h1⟩
    · omega

/-- .. where all that is leant on may be written. -/
theorem OK.turn {w0 : World} {S : Pm} {H F : List Res} {w w' : World} {r r' : Res} (h : OK w0 S H w) (t : Take1 H r F) (hc : Chg r.wr w w') (hr : r'.ok w') (hf : ∀ k, r'.fp k → r.wr k ∨ w.heap.size ≤ k) : OK w0 S (r' :: F) w' :=
  h.turnG t hc hr (fun k hk => hf k (r'.sub k hk)) (fun k hk => (hf k hk).imp (r.sub k) id)

/-- What is known of a block may be said otherwise. -/
theorem OK.recast {w0 : World} {S : Pm} {H F : List Res} {w : World} {r r' : Res} (h : OK w0 S H w) (t : Take1 H r F) (hr : r.ok w → r'.ok w) (hf : ∀ k, r'.fp k → r.wr k) : OK w0 S (r' :: F) w :=
  h.turn t (Chg.refl _ _) (hr (h.get t)) (fun k hk => .inl (hf k hk))

/-- What is owned may be held for reading alone. -/
theorem OK.readOnly {w0 : World} {S : Pm} {H F : List Res} {w : World} {v : Value} {e size n : Nat} {cs : List Value} (h : OK w0 S H w) (t : Take1 H (ownR v e size n cs) F) : OK w0 S (rdR v size n cs :: F) w :=
  h.turnG t (Chg.refl _ _) (Sown.rd (h.get t)) (fun k hk => hk.elim) (fun k hk => .inl hk.1)

/-- A block known whole, as an owned slice over all of it. -/
theorem OK.blkOwn {w0 : World} {S : Pm} {H F : List Res} {w : World} {b : Nat} {T : TypeId} {cs : List Value} {size n : Nat} (h : OK w0 S H w) (t : Take1 H (blkR b T cs) F) (hm : n ≤ maxLen) (hl : cs.length = n * size) :
    OK w0 S (ownR (.slice (some ⟨b, 0, none⟩) n n) T size n cs :: F) w := by
  refine h.recast t (fun hr => ⟨hl, .inr ⟨b, 0, n, cs.toArray, rfl, hr, Nat.le_refl _, hm, by simp [hl], fun j u hj => by simpa using hj⟩⟩) (fun k hk => hk)

section
variable {c : Cx} {Q : SQ} {env : Env} {ds : List Deferred} {H F : List Res} {ops : Array Oper} {rest : List Oper} {dst : Option Tmp} {ty : TypeId} {pos : String} {af : Array Edge} {g : Option (Nat × Bool)}

/-- The state, seen otherwise. -/
theorem WL.view {l : List Oper} {H' : List Res} (h : ∀ w, OK c.w0 c.S H w → OK c.w0 c.S H' w) (k : WL c ops Q l env ds H') : WL c ops Q l env ds H := ⟨fun a w ha hw => k.run a w ha (h w hw)⟩
theorem WC.view {l : Code} {H' : List Res} (h : ∀ w, OK c.w0 c.S H w → OK c.w0 c.S H' w) (k : WC c l Q env ds H') : WC c l Q env ds H := ⟨fun a w ha hw => k.run a w ha (h w hw)⟩
theorem To.alloc {T : TypeId} {z : Value} {cs : List Value} (hi : (c.P.info? T).map (·.zero) = some (some z)) (hz : z.cells.toList = cs) :
    To c env ds H ⟨dst, .alloc T, ty, pos, af, g⟩ (fun b : Nat => .pointer (some ⟨b, 0, none⟩)) (fun b => blkR b T cs :: H) := fun a w ha hw => by
  subst hz
  cases hq : c.P.info? T with
  | none => simp [hq] at hi
  | some i =>
    have hz : i.zero = some z := by simpa [hq] using hi
    exact ⟨w.heap.size, _, by simp [execOp, Instr.alloc, zeroValue, typeInfo, hq, hz, newVar, newRow], hw.new T z.cells.toList⟩

theorem To.box {T : TypeId} {x : Operand} {v : Value} {cs : List Value} (hx : ev env x = some v) (hz : v.cells.toList = cs) :
    To c env ds H ⟨dst, .box T x, ty, pos, af, g⟩ (fun b : Nat => .pointer (some ⟨b, 0, none⟩)) (fun b => blkR b T cs :: H) := fun a w ha hw => by
  subst hz
  exact ⟨w.heap.size, _, by simp [execOp, Instr.box, ha.ev hx, newVar, newRow], hw.new T v.cells.toList⟩

def evp (env : Env) : List (Nat × Operand) → Option (List (Nat × Value))
  | [] => some []
  | (i, x) :: xs => match ev env x, evp env xs with
    | some v, some vs => some ((i, v) :: vs)
    | _, _ => none

theorem Has.evp {n : Nat} {a : Act} (h : Has env n ds a) : ∀ {xs : List (Nat × Operand)} {vs : List (Nat × Value)}, evp env xs = some vs → xs.map (fun (i, x) => (i, a.eval x)) = vs
  | [], vs, hx => by cases hx; rfl
  | (i, x) :: xs, vs, hx => by
    unfold Go.Proofs.YtcplbkbimpiioaaGreatDoor.evp at hx
    cases h1 : Go.Proofs.YtcplbkbimpiioaaGreatDoor.ev env x with
    | none => rw [h1] at hx; cases hx
    | some v =>
      cases h2 : Go.Proofs.YtcplbkbimpiioaaGreatDoor.evp env xs with
      | none => rw [h1, h2] at hx; cases hx
      | some us =>
        rw [h1, h2] at hx
        cases hx
        simp [h.ev h1, Has.evp h h2]

theorem Yl.build {T : TypeId} {xs : List (Nat × Operand)} {vs : List (Nat × Value)} {cs : List Value} (hx : evp env xs = some vs) (h : ∀ w, (Instr.build T vs.toArray).run c.P w = .ok (.agg cs.toArray) w) :
    Yl c env ds H ⟨dst, .build T xs.toArray, ty, pos, af, g⟩ (.agg cs.toArray) := fun a w ha hw => by
  simp [execOp, ha.evp hx, h w]

/-- The values of a literal, one behind the other. -/
def flat : List Value → List Value
  | [] => []
  | v :: vs => v.cells.toList ++ flat vs

def numbered (k : Nat) : List Value → List (Nat × Value)
  | [] => []
  | v :: vs => (k, v) :: numbered (k + 1) vs

theorem foldl_seg (off : Nat) : ∀ (xs : List Value) (j : Nat) (cells : Array Value), off + j + xs.length ≤ cells.size →
    ((xs.zipIdx j).foldl (fun cs (p : Value × Nat) => cs.setIfInBounds (off + p.2) p.1) cells).toList = cells.toList.take (off + j) ++ xs ++ cells.toList.drop (off + j + xs.length)
  | [], j, cells, _ => by simp
  | x :: xs, j, cells, h => by
    rw [List.zipIdx_cons, List.foldl_cons, foldl_seg off xs (j + 1) _ (by simp at h ⊢; omega)]
    have e := list_seg_step cells.toList (off + j) x xs (by simp at h ⊢; omega)
    simpa [Array.toList_setIfInBounds, Nat.add_assoc] using e

theorem fill_seq {size : Nat} : ∀ (vs : List Value) (k : Nat) (done : List Value) (tail : List Value), (∀ v ∈ vs, v.cells.size = size) → done.length = k * size → tail.length = vs.length * size →
    Instr.fill (fun i => some (i * size, size)) (done ++ tail).toArray (numbered k vs) = some (done ++ flat vs).toArray
  | [], k, done, tail, _, _, ht => by
    have : tail = [] := List.eq_nil_of_length_eq_zero (by simpa using ht)
    subst this
    simp [numbered, Instr.fill, flat]
  | v :: vs, k, done, tail, hv, hd, ht => by
    have hvs := hv v (by simp)
    have hb : v.cells.size + vs.length * size = tail.length := by rw [ht, hvs]; simp [Nat.succ_mul, Nat.add_comm]
    unfold numbered Instr.fill
    dsimp only
    have c1 : (decide (v.cells.size ≠ size) || decide (k * size + v.cells.size > (done ++ tail).toArray.size)) = false := by
      simp [hvs, hd]; omega
    rw [if_neg (by simpa using c1)]
    have e : (v.cells.zipIdx.foldl (fun cs (p : Value × Nat) => cs.setIfInBounds (k * size + p.2) p.1) (done ++ tail).toArray) = (done ++ v.cells.toList ++ tail.drop size).toArray := by
      apply Array.toList_inj.1
      rw [← Array.foldl_toList, Array.toList_zipIdx, foldl_seg (k * size) v.cells.toList 0 _ (by simp [hd]; omega)]
      simp only [Nat.add_zero, Array.length_toList, hvs, ← hd]
      rw [List.take_left' rfl]
      congr 1
      rw [show done.length + size = (done.length) + size from rfl, List.drop_append]
      simp
    have := fill_seq vs (k + 1) (done ++ v.cells.toList) (tail.drop size) (fun u hu => hv u (by simp [hu])) (by simp [hd, hvs, Nat.succ_mul]) (by simp [ht, Nat.succ_mul])
    simp only [flat, ← List.append_assoc]
    rw [← this]
    exact congrArg (fun z => Instr.fill (fun i => some (i * size, size)) z (numbered (k + 1) vs)) e

theorem run_buildSlice {P : Program} {t e : TypeId} {size : Nat} {z : Value} (hu : P.underlying t = some (.slice e)) (hi : (P.info? e).map (fun i => (i.zero, i.size)) = some (some z, size)) (vs : List Value) (hv : ∀ v ∈ vs, v.cells.size = size) (hz : 0 < z.cells.size) (hl : vs.length * size ≤ 16777216) (w : World) :
    (Instr.buildSlice t vs.length (numbered 0 vs).toArray).run P w = .ok (.slice (some ⟨w.heap.size, 0, none⟩) vs.length vs.length) (w.alloc (.cells (flat vs).toArray e)) := by
  obtain ⟨i, hi1, hi2⟩ := Option.map_eq_some_iff.1 hi
  simp only [Prod.mk.injEq] at hi2
  obtain ⟨h1, h2⟩ := hi2
  have hf : ∀ (zs : List Value), zs.length = vs.length * size → Instr.fill (fun i => some (i * size, size)) zs.toArray (numbered 0 vs) = some (flat vs).toArray := fun zs hzs => by
    have := fill_seq (size := size) vs 0 [] zs hv (by simp) hzs
    simpa using this
  have hnot : ¬ (vs.length * size > 2 ^ 24) := by
    have : (2 : Nat) ^ 24 = 16777216 := by decide
    omega
  unfold Instr.buildSlice
  simp only [Sem.run_bind, run_underlying hu, Result.andThen_ok, sizeOf, typeInfo, Sem.run_pure, run_program]
  simp only [sizeOf, typeInfo, Sem.run_bind, hi1, h2, hnot, if_false, Sem.run_pure, Result.andThen_ok, run_program]
  by_cases h0 : vs.length * size = 0
  · have := hf [] (by simp [h0])
    have e : (Array.map (fun _ => (default : Value)) (Array.range 0)) = #[] := by simp
    simp [h0, e, this, newRow]
  · have := hf ((List.range (vs.length * size)).map (fun j => z.cells[j % z.cells.size]!)) (by simp)
    have e : ((Array.range (vs.length * size)).map (fun j => z.cells[j % z.cells.size]!)) = ((List.range (vs.length * size)).map (fun j => z.cells[j % z.cells.size]!)).toArray := by simp [← List.toArray_range]
    simp [h0, zeroValue, typeInfo, hi1, h1, e, this, newRow]

/-- A slice's literal. -/
theorem To.buildSlice {t e : TypeId} {size n : Nat} {z : Value} {xs : List (Nat × Operand)} {vs : List Value} (hu : c.P.underlying t = some (.slice e)) (hi : (c.P.info? e).map (fun i => (i.zero, i.size)) = some (some z, size))
    (hx : evp env xs = some (numbered 0 vs)) (hn : vs.length = n) (hv : ∀ v ∈ vs, v.cells.size = size) (hz : 0 < z.cells.size) (hl : n * size ≤ 16777216) :
    To c env ds H ⟨dst, .buildSlice t n xs.toArray, ty, pos, af, g⟩ (fun b : Nat => .slice (some ⟨b, 0, none⟩) n n) (fun b => blkR b e (flat vs) :: H) := fun a w ha hw => by
  subst hn
  exact ⟨w.heap.size, _, by simp [execOp, ha.evp hx, run_buildSlice hu hi vs hv hz hl w], hw.new e (flat vs)⟩

theorem To.makeSlice {t e : TypeId} {bytes n : Nat} {z : Value} {x y : Operand} {k1 k2 : IntKind} (hu : c.P.underlying t = some (.slice e)) (hi : (c.P.info? e).map (fun i => (i.zero, i.size, i.bytes)) = some (some z, 1, bytes)) (hz : z.cells = #[z])
    (hx : ev env x = some (.int k1 (n : Int))) (hy : ev env y = some (.int k2 (n : Int))) (hb : bytes * n ≤ 281474976710656) (hm : n ≤ maxLen) :
    To c env ds H ⟨dst, .makeSlice t x y, ty, pos, af, g⟩ (fun b : Nat => .slice (some ⟨b, 0, none⟩) n n) (fun b => blkR b e (List.replicate n z) :: H) := fun a w ha hw => by
  have h := run_make_row' (P := c.P) t e z bytes hu hi hz k1 k2 n hb (by unfold maxLen at hm; omega) w
  have hm' : madeCells #[z] n = (List.replicate n z).toArray := by
    apply Array.toList_inj.1
    apply List.ext_getElem
    · simp [madeCells]
    · intro i h1 h2
      simp [madeCells, Nat.mod_one]
  rw [hm'] at h
  exact ⟨w.heap.size, _, by simp [execOp, ha.ev hx, ha.ev hy, h], hw.new e _⟩

/-! ### Stores -/

theorem Sto.one {t : TypeId} {x y : Operand} {b o : Nat} {T : TypeId} {cs cs' : List Value} {v : Value} (hi : (c.P.info? t).map (·.size) = some 1) (hx : ev env x = some (.pointer (some ⟨b, o, none⟩))) (hy : ev env y = some v) (tk : Take1 H (blkR b T cs) F)
    (h1 : v.oneCell' = true) (ho : Nat.blt o cs.length = true) (he : cs.set o v = cs') : Sto c env ds H ⟨dst, .store t x y, ty, pos, af, g⟩ (blkR b T cs' :: F) := fun a w ha hw => by
  replace ho : o < cs.length := Nat.le_of_ble_eq_true ho
  subst he
  have hb : w.heap[b]? = some (.cells cs.toArray T (0, 0)) := hw.get tk
  cases hq : c.P.info? t with
  | none => simp [hq] at hi
  | some i =>
    have hs : i.size = 1 := by simpa [hq] using hi
    have hvc : v.cells = #[v] := by cases v <;> first | rfl | (simp [Value.oneCell'] at h1)
    have hcell : w.cell? ⟨b, o, none⟩ = some cs[o] := by rw [cell_of_row w b o _ T (0, 0) hb]; simp [ho]
    have hfr : w.frozen? ⟨b, o, none⟩ = false := frozen_of_row w b o _ T hb
    have hst : (store ⟨b, o, none⟩ v).run c.P w = .ok () (w.setCell ⟨b, o, none⟩ v) := by
      rw [run_store c.P w _ v _ h1, hcell]; simp [hfr]
    have h0 : (⟨b, o, none⟩ : Addr).add 0 = ⟨b, o, none⟩ := by simp [Addr.add]
    refine ⟨w.setCell ⟨b, o, none⟩ v, by simp [execOp, ha.ev hx, ha.ev hy, Instr.storeAt, Instr.sureAddr, storeVar, sizeOf, typeInfo, hq, hs, hvc, storeCells, h0, hst], ?_⟩
    refine hw.turn tk (Chg.setCell (S := fun k => b = k) w _ _ (fun _ => rfl)) ?_ (fun k hk => .inl hk)
    show (w.setCell ⟨b, o, none⟩ v).heap[b]? = _
    rw [heap_setCell_same w b o _ T v hb]
    simp

theorem Sto.agg {t : TypeId} {x y : Operand} {b o : Nat} {T : TypeId} {cs cs' : List Value} {ys : List Value} {n : Nat} (hi : (c.P.info? t).map (·.size) = some n) (hx : ev env x = some (.pointer (some ⟨b, o, none⟩))) (hy : ev env y = some (.agg ys.toArray)) (tk : Take1 H (blkR b T cs) F)
    (h1 : ∀ v ∈ ys, v.oneCell' = true) (hn : ys.length = n) (ho : Nat.ble (o + n) cs.length = true) (he : cs.take o ++ ys ++ cs.drop (o + n) = cs') : Sto c env ds H ⟨dst, .store t x y, ty, pos, af, g⟩ (blkR b T cs' :: F) := fun a w ha hw => by
  replace ho : o + n ≤ cs.length := Nat.le_of_ble_eq_true ho
  subst he hn
  have hb : w.heap[b]? = some (.cells cs.toArray T (0, 0)) := hw.get tk
  cases hq : c.P.info? t with
  | none => simp [hq] at hi
  | some i =>
    have hs : i.size = ys.length := by simpa [hq] using hi
    have hst := run_storeCells_at c.P b o T ys 0 cs.toArray w hb (by simpa using ho) h1
    simp only [Nat.add_zero] at hst
    refine ⟨_, by simp [execOp, ha.ev hx, ha.ev hy, Instr.storeAt, Instr.sureAddr, storeVar, sizeOf, typeInfo, hq, hs, Value.cells, hst]; rfl, ?_⟩
    refine hw.turn tk ⟨rfl, rfl, rfl, by simp, fun k _ hk => setRow_other w b k _ (fun e => hk e.symm)⟩ ?_ (fun k hk => .inl hk)
    show (w.setRow b _).heap[b]? = _
    rw [setRow_heap w b _ _ T _ hb, List.append_assoc]

theorem Sown.put {w : World} {e : TypeId} {b off n cap : Nat} {cs : List Value} (h : Sown w e 1 (.slice (some ⟨b, off, none⟩) n cap) n cs) (i : Nat) (hi : i < n) (y : Value) :
    (∃ u, w.cell? ⟨b, off + i, none⟩ = some u) ∧ w.frozen? ⟨b, off + i, none⟩ = false ∧ Sown (w.setCell ⟨b, off + i, none⟩ y) e 1 (.slice (some ⟨b, off, none⟩) n cap) n (cs.set i y) := by
  have hl := h.1
  rw [Nat.mul_one] at hl
  obtain ⟨b', off', cur, he, hb, h1, h2, h3, h4⟩ := h.cell (by omega)
  cases he
  refine ⟨⟨cs[i], ?_⟩, frozen_of_row w b _ cur e hb, by rw [List.length_set, hl, Nat.mul_one], .inr ⟨b, off, cap, cur.setIfInBounds (off + i) y, rfl, heap_setCell_same w b _ cur e _ hb, h1, h2, by simpa using h3, ?_⟩⟩
  · rw [cell_of_row w b _ cur e (0, 0) hb]
    exact h4 i _ (List.getElem?_eq_getElem (by omega))
  · intro j u hj
    rw [List.getElem?_set] at hj
    rw [Array.getElem?_setIfInBounds]
    by_cases hij : i = j
    · subst hij
      rw [if_pos rfl, if_pos (by omega)] at hj
      rw [if_pos rfl, if_pos (by omega)]
      exact hj
    · rw [if_neg hij] at hj
      rw [if_neg (by omega)]
      exact h4 j u hj

/-- A store into an owned slice. -/
theorem Sto.elem {t e : TypeId} {x y : Operand} {v u : Value} {j n : Nat} {cs cs' : List Value} (hi : (c.P.info? t).map (·.size) = some 1) (hx : ev env x = some (elemP v j 1)) (hy : ev env y = some u) (tk : Take1 H (ownR v e 1 n cs) F)
    (h1 : u.oneCell' = true) (hj : j < n) (he : cs.set j u = cs') : Sto c env ds H ⟨dst, .store t x y, ty, pos, af, g⟩ (ownR v e 1 n cs' :: F) := fun a w ha hw => by
  subst he
  have hs : Sown w e 1 v n cs := hw.get tk
  cases hq : c.P.info? t with
  | none => simp [hq] at hi
  | some i =>
    have his : i.size = 1 := by simpa [hq] using hi
    have hvc : u.cells = #[u] := by cases u <;> first | rfl | (simp [Value.oneCell'] at h1)
    rcases hs.2 with ⟨rfl, h0⟩ | ⟨b, off, cap, cur, rfl, _⟩
    · omega
    · obtain ⟨⟨u0, g1⟩, g2, g3⟩ := hs.put j hj u
      have hst : (store ⟨b, off + j, none⟩ u).run c.P w = .ok () (w.setCell ⟨b, off + j, none⟩ u) := by
        rw [run_store c.P w _ u _ h1, g1]; simp [g2]
      have h0 : (⟨b, off + j, none⟩ : Addr).add 0 = ⟨b, off + j, none⟩ := by simp [Addr.add]
      refine ⟨w.setCell ⟨b, off + j, none⟩ u, by simp [execOp, ha.ev hx, ha.ev hy, elemP, Addr.add_lit, Instr.storeAt, Instr.sureAddr, storeVar, sizeOf, typeInfo, hq, his, hvc, storeCells, h0, hst], ?_⟩
      exact hw.turn tk (Chg.setCell (S := fun k => b = k) w _ _ (fun _ => rfl)) g3 (fun k hk => .inl hk)

/-! ### append, copy -/

theorem Sown.le {w : World} {e size n cap : Nat} {ao : Option Addr} {cs : List Value} (h : Sown w e size (.slice ao n cap) n cs) : n ≤ cap := by
  obtain ⟨_, _, he, h1, _⟩ := h.rd.form
  cases he; exact h1

theorem To.append {s x : Operand} {t e : TypeId} {z : Value} {size bytes : Nat} (hT : SlT c.P t e z size bytes) {v xv : Value} {n m : Nat} {xs news : List Value} (hs : ev env s = some v) (hx : ev env x = some xv)
    (tk : Take1 H (ownR v e size n xs) F) (hr : Reads c H xv size m news) (h1 : ∀ u ∈ news, u.oneCell' = true) {N : Nat} (hN : n + m = N) {zs : List Value} (hz : xs ++ news = zs) (h63 : N ≤ maxLen) (hb : N * bytes ≤ 140737488355328) :
    To c env ds H ⟨dst, .call { callee := .builtin .append, args := #[s, x], argTypes := #[t, t] }, ty, pos, af, g⟩ (fun p : { p : Option Addr × Nat // N ≤ p.2 } => .slice p.1.1 N p.1.2) (fun p => ownR (.slice p.1.1 N p.1.2) e size N zs :: F) := fun a w ha hw => by
  subst hN hz
  obtain ⟨ao, cap, w', hrun, h2, h3, h4, h5, _⟩ := run_app (P := c.P) w (ty := ty) hT (hw.get tk) (hr w hw) h1 h63 hb
  refine ⟨⟨(ao, cap), Sown.le h2⟩, w', ?_, hw.turn tk h3 h2 (fun k hk => ?_)⟩
  · simp only [execOp, resolve, invoke, builtin, Sem.run_bind, Sem.run_pure, Result.andThen_ok, List.map_toArray, List.map_cons, List.map_nil, ha.ev hs, ha.ev hx, hrun]
  · rcases h4 k hk with h | h
    · exact .inl h
    · exact .inr h.1

/-- copy into a block that is known whole. -/
theorem To.copy {d s : Operand} {dT sT e : TypeId} (hu : c.P.underlying dT = some (.slice e)) (hsz : (c.P.info? e).map (·.size) = some 1) {b o n cap : Nat} {T : TypeId} {cs cs' : List Value} {sv : Value} {m : Nat} {news : List Value}
    (hd : ev env d = some (.slice (some ⟨b, o, none⟩) n cap)) (hs : ev env s = some sv) (tk : Take1 H (blkR b T cs) F) (hr : Reads c H sv 1 m news) (h1 : ∀ u ∈ news, u.oneCell' = true) (ho : Nat.ble (o + n) cs.length = true)
    (he : cs.take o ++ news.take n ++ cs.drop (o + (news.take n).length) = cs') :
    To c env ds H ⟨dst, .call { callee := .builtin .copy, args := #[d, s], argTypes := #[dT, sT] }, ty, pos, af, g⟩ (fun _ : Unit => .int .i64 ((news.take n).length : Nat)) (fun _ => blkR b T cs' :: F) := fun a w ha hw => by
  replace ho : o + n ≤ cs.length := Nat.le_of_ble_eq_true ho
  subst he
  have hb : w.heap[b]? = some (.cells cs.toArray T (0, 0)) := hw.get tk
  have r := hr w hw
  have hl := r.1
  rw [Nat.mul_one] at hl
  have key : ∃ w', (Builtin.copy_ #[dT, sT] ty #[.slice (some ⟨b, o, none⟩) n cap, sv]).run c.P w = .ok (.int .i64 ((news.take n).length : Nat)) w' ∧ OK c.w0 c.S (blkR b T (cs.take o ++ news.take n ++ cs.drop (o + (news.take n).length)) :: F) w' := by
    rcases r.2 with ⟨rfl, rfl⟩ | ⟨ad, cap', rfl, k1, k2, k3⟩
    · have : news = [] := List.eq_nil_of_length_eq_zero hl
      subst this
      cases hq : c.P.info? e with
      | none => simp [hq] at hsz
      | some i =>
        refine ⟨w, by simp [Builtin.copy_, run_underlying hu, Builtin.lenOf, Builtin.firstCells, sizeOf, typeInfo, hq, storeCells, goInt], ?_⟩
        refine hw.turn tk (Chg.refl _ _) ?_ (fun k hk => .inl hk)
        show w.heap[b]? = _
        rw [hb]; simp
    · refine ⟨_, run_copy_row (P := c.P) w dT sT ty e b o n cap ad m cap' cs.toArray T (news.take n) hu hsz hb (by rw [List.length_take, hl]; exact Nat.min_comm _ _) (fun j v hv => ?_) (by simp; omega) (fun v hv => h1 v (List.mem_of_mem_take hv)), ?_⟩
      · have hv' : news[j]? = some v := by
          rw [List.getElem?_take] at hv
          split at hv
          · exact hv
          · cases hv
        obtain ⟨q1, q2⟩ := k3 j v hv'
        obtain ⟨b2, o2, sp⟩ := ad
        cases q1
        rw [Addr.add_lit]; exact q2
      · refine hw.turn tk ⟨rfl, rfl, rfl, by simp, fun k _ hk => setRow_other w b k _ (fun e => hk e.symm)⟩ ?_ (fun k hk => .inl hk)
        show (w.setRow b _).heap[b]? = _
        rw [setRow_heap w b _ _ T _ hb]
  obtain ⟨w', h2, h3⟩ := key
  refine ⟨(), w', ?_, h3⟩
  simp only [execOp, resolve, invoke, builtin, Sem.run_bind, Sem.run_pure, Result.andThen_ok, List.map_toArray, List.map_cons, List.map_nil, ha.ev hd, ha.ev hs, h2]
end

/-! ### Functions -/

/-- What is asked of a body's end. -/
def retS (c : Cx) (fn : Func) (R : Ending → World → Prop) : SQ := fun e env ds H =>
  (e = .normal ∨ e = .ret) ∧ ds = [] ∧ ∀ tmps w, (∀ t v, Env.get env t = some v → tmps[t]? = some v) → OK c.w0 c.S H w → ∃ v, (results fn tmps).run c.P w = .ok v w ∧ R (.returned v) w

def args0 (k : Nat) : List Value → Env
  | [] => []
  | v :: vs => (k, v) :: args0 (k + 1) vs

theorem args0_get {vs : List Value} : ∀ {k t : Nat} {v : Value}, Env.get (args0 k vs) t = some v → k ≤ t ∧ vs[t - k]? = some v := by
  induction vs with
  | nil => intro k t v h; cases h
  | cons u us ih =>
    intro k t v h
    unfold args0 Env.get at h
    cases hb : Nat.beq k t with
    | true =>
      rw [hb] at h
      cases h
      have := Nat.eq_of_beq_eq_true hb
      subst this
      simp
    | false =>
      rw [hb] at h
      obtain ⟨h1, h2⟩ := ih h
      refine ⟨by omega, ?_⟩
      rw [show t - k = (t - (k + 1)) + 1 by omega]
      simpa using h2

/-- A function's promise, from a walk of its body. -/
theorem enterS {P : Program} {f : FuncId} {fn : Func} {k : Code} {vs : List Value} {w : World} {S : Pm} {R : Ending → World → Prop} {n : Nat} {H : List Res} (hf : P.funcs[f]? = some fn) (hb : fn.body = some k) (hn : fn.ntmps = n) (hl : Nat.ble vs.length n = true) (hw : OK w S H w)
    (h : WC ⟨P, none, n, w, S⟩ k (retS ⟨P, none, n, w, S⟩ fn R) (args0 0 vs) [] H) : Calls P f vs.toArray w R := by
  replace hl := Nat.le_of_ble_eq_true hl
  refine calls_of_fw (ro := none) (n := 0) ?_
  refine callsIn_of_wp hf hb trivial (Go.wpIn_mono (h.run _ w ?_ hw) ?_) rfl
  · refine ⟨?_, rfl, ?_⟩
    · simp [hn]; omega
    · intro t v ht
      have := args0_get ht
      have hlt : t < vs.length := by
        have := (List.getElem?_eq_some_iff.1 this.2).1; omega
      rw [Array.getElem?_append_left (by simpa using hlt)]
      simpa using this.2
  · rintro e a w' ⟨_, env, ds, H', h1, h2, he, hds, h3⟩
    obtain ⟨v, hr, hR⟩ := h3 a.tmps w' h1.2.2 h2
    rcases he with rfl | rfl
    · exact ⟨by rw [h1.2.1, hds], v, hr, hR⟩
    · exact ⟨by rw [h1.2.1, hds], v, hr, hR⟩

/-- The end of a body: nothing handed back, one value, two, three. -/
theorem ret0 {c : Cx} {fn : Func} {R : Ending → World → Prop} {e : Exit} {env : Env} {H : List Res} (he : e = .normal ∨ e = .ret) (hr : fn.results = #[]) (h : ∀ w, OK c.w0 c.S H w → R (.returned (.tuple #[])) w) : retS c fn R e env [] H :=
  ⟨he, rfl, fun tmps w _ hw => ⟨_, results_none hr tmps c.P w, h w hw⟩⟩
theorem ret1 {c : Cx} {fn : Func} {R : Ending → World → Prop} {e : Exit} {env : Env} {H : List Res} {t : Nat} {v : Value} (he : e = .normal ∨ e = .ret) (hr : fn.results = #[.tmp t]) (hv : Env.get env t = some v) (h : ∀ w, OK c.w0 c.S H w → R (.returned v) w) : retS c fn R e env [] H :=
  ⟨he, rfl, fun tmps w ht hw => ⟨v, by rw [results_tmp hr tmps c.P w, Array.getD_eq_getD_getElem?, ht t v hv]; rfl, h w hw⟩⟩
theorem ret2 {c : Cx} {fn : Func} {R : Ending → World → Prop} {e : Exit} {env : Env} {H : List Res} {t u : Nat} {v x : Value} (he : e = .normal ∨ e = .ret) (hr : fn.results = #[.tmp t, .tmp u]) (hv : Env.get env t = some v) (hx : Env.get env u = some x) (h : ∀ w, OK c.w0 c.S H w → R (.returned (.tuple #[v, x])) w) : retS c fn R e env [] H :=
  ⟨he, rfl, fun tmps w ht hw => ⟨.tuple #[v, x], by rw [results_tmp2 hr tmps c.P w, Array.getD_eq_getD_getElem?, Array.getD_eq_getD_getElem?, ht t v hv, ht u x hx]; rfl, h w hw⟩⟩
/-- Whatever the results are. -/
theorem retG {c : Cx} {fn : Func} {R : Ending → World → Prop} {e : Exit} {env : Env} {H : List Res} {v : Value} (he : e = .normal ∨ e = .ret) (hr : ∀ (tmps : Array Value) w, (∀ t v, Env.get env t = some v → tmps[t]? = some v) → OK c.w0 c.S H w → (results fn tmps).run c.P w = .ok v w) (h : ∀ w, OK c.w0 c.S H w → R (.returned v) w) : retS c fn R e env [] H :=
  ⟨he, rfl, fun tmps w ht hw => ⟨v, hr tmps w ht hw, h w hw⟩⟩

end Go.Proofs.YtcplbkbimpiioaaGreatDoor
