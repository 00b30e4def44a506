/- Strings: bytes of one, cut, a byte of one; append of one; a string made of owned bytes. -/
import Derived.Test.YtbgimajbehodnaaGreatDoorLibH
import Derived.Test.YtbgimajbehodnaaGreatDoorLibN
import Derived.Test.YtbgimajbehodnaaGreatDoorWireP
import Derived.Lib.AppendStr
import Derived.Lib.UnsafeStr
import Derived.Lib.Builder
import Derived.Laws.IdiomStrings
import Derived.Test.YtbgimajbehodnaaGreatDoorLibI
namespace Go.Proofs.YtbgimajbehodnaaGreatDoor
open Go Go.RowKit Go.Lib
theorem strCells_ints {ys : List Int} (h : Bytes ys) : strCells (strOfNums ys) = ints .u8 ys := by
  unfold strCells ints
  rw [strOfNums_data, List.map_map]
  refine List.map_congr_left fun y hy => ?_
  have := h y hy
  show Value.int .u8 ((UInt8.ofNat y.toNat).toNat : Int) = .int .u8 y
  congr 1
  simp only [UInt8.toNat_ofNat']
  omega
theorem str_cut (ys : List Int) (l h : Nat) : (strOfNums ys).extract l h = strOfNums ((ys.take h).drop l) := by
  apply ByteArray.ext
  apply Array.ext'
  rw [ByteArray.data_extract, Array.toList_extract, strOfNums_data, strOfNums_data, List.extract_eq_take_drop, ← List.map_drop, ← List.map_take]
  congr 1
  rw [List.drop_take]
section
variable {P : Program} (w : World)
theorem run_append_room_str_off (t u ty e : TypeId) (i : TypeInfo) (ht : P.underlying t = some (.slice e)) (hu : P.underlying u = some .string) (hi : P.info? e = some i) (hs1 : i.size = 1)
    (g o sLen sCap : Nat) (cur : Array Value) (hg : w.heap[g]? = some (.cells cur e (0, 0))) (s : ByteArray)
    (hroom : sLen + s.size ≤ sCap) (hfit : o + sLen + s.size ≤ cur.size) :
    (Builtin.append_ #[t, u] ty #[.slice (some ⟨g, o, none⟩) sLen sCap, .string s]).run P w =
      .ok (.slice (some ⟨g, o, none⟩) (sLen + s.size) sCap) (w.setRow g (cur.toList.take (o + sLen) ++ strCells s ++ cur.toList.drop (o + sLen + s.size)).toArray) := by
  have hf := run_firstCells_string (P := P) w 1 s
  have hst := run_storeCells_at P g (o + sLen) e (strCells s) 0 cur w hg (by simpa [strCells_length] using hfit) (strCells_oneCell s)
  simp only [Nat.add_zero, strCells_length] at hst
  simp [Builtin.append_, run_underlying ht, run_underlying hu, sizeOf, typeInfo, hi, hs1, Builtin.lenOf, hroom, hf, Addr.add_lit, hst]
/-- append of a string onto a slice of bytes that is owned. -/
theorem run_appS {t u ty e : TypeId} {z : Value} (hT : SlT P t e z 1 1) (hu : P.underlying u = some .string) {v : Value} {n : Nat} {xs : List Value} (hown : Sown w e 1 v n xs) (s : ByteArray) (h63 : n + s.size ≤ maxLen) (hbytes : n + s.size ≤ 140737488355328) :
    ∃ ao cap w', (Builtin.append_ #[t, u] ty #[v, .string s]).run P w = .ok (.slice ao (n + s.size) cap) w' ∧ Sown w' e 1 (.slice ao (n + s.size) cap) (n + s.size) (xs ++ strCells s) ∧ Chg (blk v) w w' ∧
      (∀ k, blk (.slice ao (n + s.size) cap) k → blk v k ∨ (w.heap.size ≤ k ∧ k < w'.heap.size)) := by
  obtain ⟨ht, ⟨i, hi, hz, hsz, hby⟩, hzs, _⟩ := hT
  have hsmall : n + s.size ≤ 9223372036854775807 := by simp only [maxLen] at h63; omega
  have hxl : xs.length = n := by have := hown.1; omega
  have hlen : (xs ++ strCells s).length = (n + s.size) * 1 := by rw [List.length_append, hxl, strCells_length, Nat.mul_one]
  have grown : ∀ (old : Nat), old < n + s.size →
      Sown (w.drew.alloc (.cells (xs.toArray ++ (strCells s).toArray ++ Builtin.zeroCells z.cells (grownCap w (n + s.size) old e - (n + s.size))) e)) e 1
        (.slice (some ⟨w.heap.size, 0, none⟩) (n + s.size) (grownCap w (n + s.size) old e)) (n + s.size) (xs ++ strCells s) := by
    intro old ho
    have hge := grownCap_ge w (n + s.size) old e
    have hcm : grownCap w (n + s.size) old e ≤ maxLen := grownCap_le_maxLen w (n + s.size) old e h63
    refine ⟨hlen, .inr ⟨w.heap.size, 0, _, _, rfl, heap_alloc_new w.drew _, hge, hcm, ?_, ?_⟩⟩
    · simp only [Array.size_append, List.size_toArray, size_zeroCells, hzs, hxl, strCells_length]
      omega
    · intro j y hj
      simp only [Nat.zero_add]
      rw [Array.getElem?_append_left (by simp only [Array.size_append, List.size_toArray]; rw [← List.length_append]; exact (List.getElem?_eq_some_iff.1 hj).1)]
      simpa using hj
  rcases hown.2 with ⟨rfl, rfl⟩ | ⟨g, o, cap, cur, rfl, hg, hnc, hcm2, hfit, hcur⟩
  · have hx0 : xs = [] := List.eq_nil_of_length_eq_zero hxl
    subst hx0
    by_cases hm : s.size = 0
    · have hn : strCells s = [] := List.eq_nil_of_length_eq_zero (by rw [strCells_length]; exact hm)
      refine ⟨none, 0, w, ?_, by rw [hm, hn]; exact Sown.nil _ _ _, Chg.refl _ _, fun k hk => hk.elim⟩
      have hf := run_firstCells_string (P := P) w 1 s
      rw [hm] at hf
      simp [Builtin.append_, run_underlying ht, run_underlying hu, sizeOf, typeInfo, hi, hsz, Builtin.lenOf, hm, hf]
    · have hr := run_append_nil_string (P := P) w t u ty e i z ht hu hi hz s (by omega) (by omega) (by rw [hby]; omega)
      have hgr := grown 0 (by omega)
      simp only [Nat.zero_add, List.nil_append, Array.empty_append] at hgr ⊢
      have e1 : (s.data.map fun b => Value.int .u8 b.toNat) = (strCells s).toArray := by
        apply Array.ext'
        simp [strCells]
      rw [e1] at hr
      exact ⟨_, _, _, hr, hgr, (Chg.drew _ w).trans (Chg.alloc _ _ _), fun k hk => .inr (by cases hk; simp)⟩
  · by_cases hroom : n + s.size ≤ cap
    · have hr := run_append_room_str_off (P := P) w t u ty e i ht hu hi hsz g o n cap cur hg s hroom (by omega)
      refine ⟨_, _, _, hr, ⟨hlen, .inr ⟨g, o, cap, _, rfl, setRow_heap w g cur _ e _ hg, hroom, hcm2, ?_, ?_⟩⟩, ⟨rfl, rfl, rfl, by simp, fun k _ hk => setRow_other w g k _ (fun e => hk e.symm)⟩, fun k hk => .inl hk⟩
      · simp only [List.size_toArray, List.length_append, List.length_take, List.length_drop, Array.length_toList, strCells_length]
        omega
      · intro j y hj
        simp only [List.getElem?_toArray]
        by_cases hjn : j < n
        · rw [List.append_assoc, List.getElem?_append_left (by rw [List.length_take, Array.length_toList]; omega), List.getElem?_take, if_pos (by omega)]
          rw [List.getElem?_append_left (by omega)] at hj
          simpa using hcur j y hj
        · rw [List.getElem?_append_right (by omega), hxl] at hj
          have hl3 : j - n < (strCells s).length := (List.getElem?_eq_some_iff.1 hj).1
          rw [List.getElem?_append_left (by rw [List.length_append, List.length_take, Array.length_toList]; omega), List.getElem?_append_right (by rw [List.length_take, Array.length_toList]; omega), List.length_take, Array.length_toList]
          rw [show o + j - min (o + n) cur.size = j - n by omega]
          exact hj
    · have holds : ∀ j y, xs[j]? = some y → w.cell? ((⟨g, o, none⟩ : Addr).add j) = some y := fun j y hj => by
        rw [Addr.add_lit, cell_of_row w g (o + j) cur e (0, 0) hg]; exact hcur j y hj
      have hr := run_append_grow_string (P := P) w t u ty e i z ht hu hi hz ⟨g, o, none⟩ n cap xs (by rw [hsz]; omega) holds s (by omega) (by omega) (by rw [hby]; exact growslice_fits (by omega) (by omega))
      exact ⟨_, _, _, hr, grown cap (by omega), (Chg.drew _ w).trans (Chg.alloc _ _ _), fun k hk => .inr (by cases hk; simp)⟩
/-- unsafe.String over a row of bytes, from a place on. -/
theorem run_unsafeStr (pt it ty e : TypeId) (hp : P.underlying pt = some (.pointer e)) (hc : P.cellsOf e = 1) (g o cells : Nat) (hsh : w.shape? g = some (e, cells)) (ys : List Int) (hB : Bytes ys) (h0 : ys ≠ []) (hn : o + ys.length ≤ cells) (h63 : ys.length ≤ 9223372036854775807)
    (hcell : ∀ (j : Nat) y, ys[j]? = some y → w.cell? ⟨g, o + j, none⟩ = some (.int .u8 y)) :
    (Builtin.unsafeString_ #[pt, it] ty #[.pointer (some ⟨g, o, none⟩), .int .i64 ys.length]).run P w = .ok (.string (strOfNums ys)) (w.freeze ⟨g, o, none⟩ ys.length) := by
  have hl : ys.length ≠ 0 := by simpa using h0
  have hlb := run_loadBytes (P := P) w (ys.map fun n => UInt8.ofNat n.toNat) ⟨g, o, none⟩ .empty (fun j x hx => by
    rw [List.getElem?_map] at hx
    obtain ⟨y, hy, rfl⟩ := Option.map_eq_some_iff.1 hx
    rw [Addr.add_lit, hcell j y hy]
    have := hB y (List.mem_of_getElem? hy)
    congr 2
    simp only [UInt8.toNat_ofNat']
    omega)
  rw [List.length_map] at hlb
  have hlies : liesAt P P.depth e (cells / P.cellsOf e) o e ys.length = true := by
    have hd : P.depth = (2 * (P.types.size + Made.depth) + 1) + 1 := rfl
    rw [hd]
    simp only [liesAt, Bool.or_eq_true]
    left
    rw [hd]
    simp [rowAt, hc, sameLayout, hn, Nat.mod_one]
  have h63' : ¬ (9223372036854775807 : Int) < (ys.length : Int) := by omega
  have hdef : Builtin.unsafeString_ #[pt, it] ty #[.pointer (some ⟨g, o, none⟩), .int .i64 ys.length] =
      (do
        let n ← asInt (.int .i64 ys.length)
        if n < 0 then runtimePanic (.error "unsafe.String: len out of range")
        if n > IntKind.i64.max then unsupported (.unsafePointer "String: a length above the largest int")
        if n = 0 then pure (.string .empty)
        else if ← variablesAt ⟨g, o, none⟩ (← elemOf pt) n.toNat then do
          let s ← loadBytes ⟨g, o, none⟩ .empty n.toNat
          freeze ⟨g, o, none⟩ n.toNat
          pure (.string s)
        else unsupported (.unsafePointer "String: not so many bytes at ptr")) := rfl
  rw [hdef]
  have hmax : IntKind.i64.max = 9223372036854775807 := rfl
  have hneg : ¬ (ys.length : Int) < 0 := by omega
  simp [asInt, asIntOf, hmax, h63', hneg, hl, variablesAt, hsh, elemOf, run_underlying hp, hlies, hlb]
  apply ByteArray.ext
  simp [strOfNums]
theorem Chg.freeze {S : Nat → Prop} (w : World) (g o n : Nat) (h : S g) : Chg S w (w.freeze ⟨g, o, none⟩ n) := by
  unfold World.freeze
  split
  · exact Chg.refl _ _
  · exact ⟨rfl, rfl, rfl, by simp, fun k _ hk => by
      simp only [Array.getElem?_modify]
      rw [if_neg (fun e => hk (by rw [← e]; exact h))]⟩
end
section
variable {c : Cx} {env : Env} {ds : List Deferred} {H F : List Res} {dst : Option Tmp} {ty : TypeId} {pos : String} {af : Array Edge} {g : Option (Nat × Bool)}
theorem OK.let1 {w0 : World} {S : Pm} {w w' : World} {r : Res} (h : OK w0 S H w) (t : Take1 H r F) (hc : Chg r.wr w w') : OK w0 S F w' := by
  have := OK.upd (A := [r]) (B := []) (F := F) (h.perm t.perm) (OK.zero (hc.mono fun k _ hk => ⟨r, List.mem_singleton.2 rfl, hk⟩))
  simpa using this
/-- append(b, s...). -/
theorem To.appendS {s x : Operand} {t u e : TypeId} {z : Value} {v : Value} {n N : Nat} {xs zs : List Value} {ys : List Int} (hT : SlT c.P t e z 1 1) (hu : c.P.underlying u = some .string) (hs : ev env s = some v) (hx : ev env x = some (.string (strOfNums ys)))
    (tk : Take1 H (ownR v e 1 n xs) F) (hB : Bytes ys) (hN : n + ys.length = N) (hz : xs ++ ints .u8 ys = zs) (h63 : N ≤ maxLen) (hb : N ≤ 140737488355328) :
    To c env ds H ⟨dst, .call { callee := .builtin .append, args := #[s, x], argTypes := #[t, u] }, ty, pos, af, g⟩ (fun p : { p : Option Addr × Nat // N ≤ p.2 } => .slice p.1.1 N p.1.2) (fun p => ownR (.slice p.1.1 N p.1.2) e 1 N zs :: F) := fun a w ha hw => by
  subst hN hz
  have hsz : (strOfNums ys).size = ys.length := strOfNums_size ys
  obtain ⟨ao, cap, w', hrun, h2, h3, h4⟩ := run_appS (P := c.P) w (ty := ty) hT hu (hw.get tk) (strOfNums ys) (by rw [hsz]; exact h63) (by rw [hsz]; exact hb)
  rw [hsz] at hrun h2 h4
  rw [strCells_ints hB] at h2
  refine ⟨⟨(ao, cap), Sown.le h2⟩, w', ?_, hw.turn tk h3 h2 (fun k hk => ?_)⟩
  · simp only [execOp, resolve, invoke, builtin, Sem.run_bind, Sem.run_pure, Result.andThen_ok, List.map_toArray, List.map_cons, List.map_nil, ha.ev hs, ha.ev hx, hrun]
  · rcases h4 k hk with h | h
    · exact .inl h
    · exact .inr h.1
/-- unsafe.SliceData of a slice with room. -/
theorem Yl.sliceData {x : Operand} {t : TypeId} {a : Addr} {n cap : Nat} (hx : ev env x = some (.slice (some a) n cap)) (hc : cap ≠ 0) : Yl c env ds H ⟨dst, .call { callee := .builtin .unsafeSliceData, args := #[x], argTypes := #[t] }, ty, pos, af, g⟩ (.pointer (some a)) := fun a' w ha _ => by
  have := run_unsafeSliceData_row (P := c.P) w #[t] ty a n cap hc
  simp only [execOp, resolve, invoke, builtin, Sem.run_bind, Sem.run_pure, Result.andThen_ok, List.map_toArray, List.map_cons, List.map_nil, ha.ev hx, this]
/-- unsafe.String: the bytes are let go. -/
theorem To.unsafeStr {x y : Operand} {pt it e : TypeId} {b o n cap : Nat} {ys : List Int} (hp : c.P.underlying pt = some (.pointer e)) (hc : Nat.beq (c.P.cellsOf e) 1 = true) (hx : ev env x = some (.pointer (some ⟨b, o, none⟩))) (hy : ev env y = some (.int .i64 (n : Int)))
    (tk : Take1 H (ownR (.slice (some ⟨b, o, none⟩) n cap) e 1 n (ints .u8 ys)) F) (hB : Bytes ys) (h0 : 0 < n) :
    To c env ds H ⟨dst, .call { callee := .builtin .unsafeString, args := #[x, y], argTypes := #[pt, it] }, ty, pos, af, g⟩ (fun _ : Unit => .string (strOfNums ys)) (fun _ => F) := fun a w ha hw => by
  have hown : Sown w e 1 (.slice (some ⟨b, o, none⟩) n cap) n (ints .u8 ys) := hw.get tk
  have hl : n = ys.length := by have := hown.1; rw [ints_length] at this; omega
  subst hl
  rcases hown.2 with ⟨he, _⟩ | ⟨b', o', cap', cur, he, hg, hnc, hcm, hfit, hcur⟩
  · cases he
  · cases he
    have hsh : w.shape? b = some (e, cur.size) := by simp [World.shape?, hg]
    have hr := run_unsafeStr (P := c.P) w pt it ty e hp (Nat.eq_of_beq_eq_true hc) b o cur.size hsh ys hB (by intro e; rw [e] at h0; simp at h0) (by omega) (by unfold maxLen at hcm; omega) (fun j y hj => by
      rw [cell_of_row w b (o + j) cur e (0, 0) hg]
      exact hcur j _ (by unfold ints; rw [List.getElem?_map, hj]; rfl))
    refine ⟨(), _, ?_, hw.let1 tk (Chg.freeze w b o ys.length rfl)⟩
    simp only [execOp, resolve, invoke, builtin, Sem.run_bind, Sem.run_pure, Result.andThen_ok, List.map_toArray, List.map_cons, List.map_nil, ha.ev hx, ha.ev hy, hr]
/-- *T to unsafe.Pointer and back, within a block that is known whole. -/
theorem Yl.toUnsafe {src dstT t : TypeId} {x : Operand} {sz b o : Nat} {T : TypeId} {cs : List Value} (hs : c.P.underlying src = some (.pointer t)) (hd : c.P.underlying dstT = some .unsafePointer) (ht : (c.P.info? t).map (·.size) = some sz) (h0 : sz ≠ 0)
    (hx : ev env x = some (.pointer (some ⟨b, o, none⟩))) (tk : Take1 H (blkR b T cs) F) (ho : o < cs.length) : Yl c env ds H ⟨dst, .convert src dstT x, ty, pos, af, g⟩ (.pointer (some ⟨b, o, none⟩)) := fun a w ha hw => by
  have hb : w.heap[b]? = some (.cells cs.toArray T (0, 0)) := hw.get tk
  have hsh : w.shape? b = some (T, cs.length) := by simp [World.shape?, hb]
  cases hi : c.P.info? t with
  | none => simp [hi] at ht
  | some j =>
    have hj : j.size = sz := by simpa [hi] using ht
    have := run_to_unsafe (P := c.P) w (src := src) (dst := dstT) (t := t) (e := T) (j := j) (cells := cs.length) ⟨b, o, none⟩ hs hd hi (by omega) hsh ho
    simp [execOp, ha.ev hx, this]
theorem Yl.fromUnsafe {src dstT u : TypeId} {x : Operand} {b o : Nat} {T : TypeId} {cs : List Value} (hs : c.P.underlying src = some .unsafePointer) (hd : c.P.underlying dstT = some (.pointer u)) (hu : (c.P.info? u).isSome = true)
    (hx : ev env x = some (.pointer (some ⟨b, o, none⟩))) (tk : Take1 H (blkR b T cs) F) (hl : liesAt c.P c.P.depth T (cs.length / c.P.cellsOf T) o u 1 = true) : Yl c env ds H ⟨dst, .convert src dstT x, ty, pos, af, g⟩ (.pointer (some ⟨b, o, none⟩)) := fun a w ha hw => by
  have hb : w.heap[b]? = some (.cells cs.toArray T (0, 0)) := hw.get tk
  have hsh : w.shape? b = some (T, cs.length) := by simp [World.shape?, hb]
  obtain ⟨j, hj⟩ := Option.isSome_iff_exists.1 hu
  have := run_from_unsafe (P := c.P) w (src := src) (dst := dstT) (u := u) (e := T) (j := j) (cells := cs.length) ⟨b, o, none⟩ hs hd hj hsh hl
  simp [execOp, ha.ev hx, this]
/-- A pointer is unlike itself: no. -/
theorem Yl.nePtr {t t2 e : TypeId} {x y : Operand} {p : Addr} (hp : c.P.underlying t = some (.pointer e)) (he : (c.P.info? e).isSome = true) (hx : ev env x = some (.pointer (some p))) (hy : ev env y = some (.pointer (some p))) :
    Yl c env ds H ⟨dst, .binOp .neq t x y t2, ty, pos, af, g⟩ (.bool false) := by
  obtain ⟨j, hj⟩ := Option.isSome_iff_exists.1 he
  refine Yl.neqG hx hy fun w => ?_
  have := run_neq_ptr_same (P := c.P) w p hp hj
  simp [eqGuard, this]
/-- A string's bytes. -/
theorem Yl.lenT {t : TypeId} {x : Operand} {ys : List Int} (hu : c.P.underlying t = some .string) (hx : ev env x = some (.string (strOfNums ys))) : Yl c env ds H ⟨dst, .call { callee := .builtin .len, args := #[x], argTypes := #[t] }, ty, pos, af, g⟩ (.int .i64 (ys.length : Int)) := by
  have := Yl.lenS (c := c) (env := env) (ds := ds) (H := H) (dst := dst) (ty := ty) (pos := pos) (af := af) (g := g) hu hx
  rwa [strOfNums_size] at this
theorem Yl.sliceStr {t : TypeId} {x : Operand} {lo hi : Option Operand} {ys zs : List Int} {l h : Nat} (hu : c.P.underlying t = some .string) (hx : ev env x = some (.string (strOfNums ys)))
    (hl : match lo with | none => l = 0 | some y => ∃ k, ev env y = some (.int k (l : Int))) (hh : match hi with | none => h = ys.length | some y => ∃ k, ev env y = some (.int k (h : Int))) (h1 : l ≤ h) (h2 : h ≤ ys.length) (he : (ys.take h).drop l = zs) :
    Yl c env ds H ⟨dst, .slice t x lo hi none, ty, pos, af, g⟩ (.string (strOfNums zs)) := fun a w ha _ => by
  subst he
  rw [← str_cut]
  have hsz : (strOfNums ys).size = ys.length := strOfNums_size ys
  cases lo with
  | none =>
    cases hi with
    | none =>
      simp only at hl hh; subst hl hh
      rw [str_cut, List.take_length, List.drop_zero]
      simp [execOp, ha.ev hx, Instr.sliceAt, Instr.slice, run_underlying hu, Instr.sliceBounds, hsz]
    | some y =>
      obtain ⟨k, hy⟩ := hh
      simp only at hl; subst hl
      simp [execOp, ha.ev hx, ha.ev hy, Instr.sliceAt, Instr.slice, run_underlying hu, Instr.sliceBounds, Instr.sliceBound, asIntOf, hsz, h2]
  | some z =>
    obtain ⟨k2, hz⟩ := hl
    cases hi with
    | none =>
      simp only at hh; subst hh
      simp [execOp, ha.ev hx, ha.ev hz, Instr.sliceAt, Instr.slice, run_underlying hu, Instr.sliceBounds, Instr.sliceBound, asIntOf, hsz, h1]
    | some y =>
      obtain ⟨k, hy⟩ := hh
      simp [execOp, ha.ev hx, ha.ev hy, ha.ev hz, Instr.sliceAt, Instr.slice, run_underlying hu, Instr.sliceBounds, Instr.sliceBound, asIntOf, hsz, h1, h2]
/-- Two strings alike? -/
theorem Yl.sEqT {t t2 : TypeId} {x y : Operand} {xs ys : List Int} (h1 : Bytes xs) (h2 : Bytes ys) (hx : ev env x = some (.string (strOfNums xs))) (hy : ev env y = some (.string (strOfNums ys))) : Yl c env ds H ⟨dst, .binOp .eql t x y t2, ty, pos, af, g⟩ (.bool (decide (xs = ys))) := by
  have := Yl.sEq (c := c) (env := env) (ds := ds) (H := H) (dst := dst) (ty := ty) (pos := pos) (af := af) (g := g) (t := t) (t2 := t2) hx hy
  rwa [strEq h1 h2] at this
end
end Go.Proofs.YtbgimajbehodnaaGreatDoor

namespace Go.Proofs.YtbgimajbehodnaaGreatDoor
open Go Go.RowKit
section
variable {c : Cx} {env : Env} {ds : List Deferred} {H : List Res} {dst : Option Tmp} {ty : TypeId} {pos : String} {af : Array Edge} {g : Option (Nat × Bool)}
theorem Yl.sAdd {t t2 : TypeId} {x y : Operand} {xs ys : List Int} (hl : xs.length + ys.length ≤ 9223372036854775807) (hx : ev env x = some (.string (strOfNums xs))) (hy : ev env y = some (.string (strOfNums ys))) : Yl c env ds H ⟨dst, .binOp .add t x y t2, ty, pos, af, g⟩ (.string (strOfNums (xs ++ ys))) := fun a w ha _ => by
  have e : strOfNums xs ++ strOfNums ys = strOfNums (xs ++ ys) := by
    apply ByteArray.ext
    simp [strOfNums]
  have hm : ¬ (((strOfNums xs).size + (strOfNums ys).size : Nat) : Int) > IntKind.i64.max := by
    rw [strOfNums_size, strOfNums_size]
    show ¬ ((xs.length + ys.length : Nat) : Int) > 9223372036854775807
    omega
  simp only [execOp, ha.ev hx, ha.ev hy, eqGuard, binOp, Op.stringOp, hm, e]
  simp [e]
end
end Go.Proofs.YtbgimajbehodnaaGreatDoor
