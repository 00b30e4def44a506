/- Strings: bytes of one, cut, a byte of one; append of one; a string made of owned bytes. -/
import Derived.Test.YtcplbkbimpiioaaGreatDoorLibH
import Derived.Test.YtcplbkbimpiioaaGreatDoorLibO
import Derived.Test.YtcplbkbimpiioaaGreatDoorWireP
import Derived.Lib.AppendStr
import Derived.Lib.UnsafeStr
import Derived.Lib.Builder
import Derived.Laws.IdiomStrings
namespace Go.Proofs.YtcplbkbimpiioaaGreatDoor
open Go Go.RowKit Go.Lib
theorem strCells_ints {ys : List Int} (h : Bytes ys) : strCells (strOfNums ys) = ints .u8 ys := by
  unfold strCells ints
  rw [strOfNums_data, List.map_map]
  refine List.map_congr_left fun y hy => ?_
  have := h y hy
  show Value.int .u8 ((UInt8.ofNat y.toNat).toNat : Int) = .int .u8 y
  congr 1
  simp only [UInt8.toNat_ofNat']
  omega
section
variable {P : Program} (w : World)
/-- unsafe.String over a row of bytes, from a place on. -/
theorem run_unsafeStr (pt it ty e : TypeId) (hp : P.underlying pt = some (.pointer e)) (hc : P.cellsOf e = 1) (g o cells : Nat) (hsh : w.shape? g = some (e, cells)) (ys : List Int) (hB : Bytes ys) (h0 : ys ≠ []) (hn : o + ys.length ≤ cells) (h63 : ys.length ≤ 9223372036854775807)
    (hcell : ∀ (j : Nat) y, ys[j]? = some y → w.cell? ⟨g, o + j, none⟩ = some (.int .u8 y)) :
    (Builtin.unsafeString_ #[pt, it] ty #[.pointer (some ⟨g, o, none⟩), .int .i64 ys.length]).run P w = .ok (.string (strOfNums ys)) (w.freeze ⟨g, o, none⟩ ys.length) := by
  have hl : ys.length ≠ 0 := by simpa using h0
  have hlb := run_loadBytes (P := P) w (ys.map fun n => UInt8.ofNat n.toNat) ⟨g, o, none⟩ .empty (fun j x hx => by
    rw [List.getElem?_map] at hx
    obtain ⟨y, hy, rfl⟩ := Option.map_eq_some_iff.1 hx
    rw [Addr.add_lit, hcell j y hy]
    have := hB y (List.mem_of_getElem? hy)
    congr 2
    simp only [UInt8.toNat_ofNat']
    omega)
  rw [List.length_map] at hlb
  have hlies : liesAt P P.depth e (cells / P.cellsOf e) o e ys.length = true := by
    have hd : P.depth = (2 * (P.types.size + Made.depth) + 1) + 1 := rfl
    rw [hd]
    simp only [liesAt, Bool.or_eq_true]
    left
    rw [hd]
    simp [rowAt, hc, sameLayout, hn, Nat.mod_one]
  have h63' : ¬ (9223372036854775807 : Int) < (ys.length : Int) := by omega
  have hdef : Builtin.unsafeString_ #[pt, it] ty #[.pointer (some ⟨g, o, none⟩), .int .i64 ys.length] =
      (do
        let n ← asInt (.int .i64 ys.length)
        if n < 0 then runtimePanic (.error "unsafe.String: len out of range")
        if n > IntKind.i64.max then unsupported (.unsafePointer "String: a length above the largest int")
        if n = 0 then pure (.string .empty)
        else if ← variablesAt ⟨g, o, none⟩ (← elemOf pt) n.toNat then do
          let s ← loadBytes ⟨g, o, none⟩ .empty n.toNat
          freeze ⟨g, o, none⟩ n.toNat
          pure (.string s)
        else unsupported (.unsafePointer "String: not so many bytes at ptr")) := rfl
  rw [hdef]
  have hmax : IntKind.i64.max = 9223372036854775807 := rfl
  have hneg : ¬ (ys.length : Int) < 0 := by omega
  simp [asInt, asIntOf, hmax, h63', hneg, hl, variablesAt, hsh, elemOf, run_underlying hp, hlies, hlb]
  apply ByteArray.ext
  simp [strOfNums]
theorem Chg.freeze {S : Nat → Prop} (w : World) (g o n : Nat) (h : S g) : Chg S w (w.freeze ⟨g, o, none⟩ n) := by
  unfold World.freeze
  split
  · exact Chg.refl _ _
  · exact ⟨rfl, rfl, rfl, by simp, fun k _ hk => by
      simp only [Array.getElem?_modify]
      rw [if_neg (fun e => hk (by rw [← e]; exact h))]⟩
end
section
variable {c : Cx} {env : Env} {ds : List Deferred} {H F : List Res} {dst : Option Tmp} {ty : TypeId} {pos : String} {af : Array Edge} {g : Option (Nat × Bool)}
theorem OK.let1 {w0 : World} {S : Pm} {w w' : World} {r : Res} (h : OK w0 S H w) (t : Take1 H r F) (hc : Chg r.wr w w') : OK w0 S F w' := by
  have := OK.upd (A := [r]) (B := []) (F := F) (h.perm t.perm) (OK.zero (hc.mono fun k _ hk => ⟨r, List.mem_singleton.2 rfl, hk⟩))
  simpa using this
/-- unsafe.SliceData of a slice with room. -/
theorem Yl.sliceData {x : Operand} {t : TypeId} {a : Addr} {n cap : Nat} (hx : ev env x = some (.slice (some a) n cap)) (hc : cap ≠ 0) : Yl c env ds H ⟨dst, .call { callee := .builtin .unsafeSliceData, args := #[x], argTypes := #[t] }, ty, pos, af, g⟩ (.pointer (some a)) := fun a' w ha _ => by
  have := run_unsafeSliceData_row (P := c.P) w #[t] ty a n cap hc
  simp only [execOp, resolve, invoke, builtin, Sem.run_bind, Sem.run_pure, Result.andThen_ok, List.map_toArray, List.map_cons, List.map_nil, ha.ev hx, this]
/-- unsafe.String: the bytes are let go. -/
theorem To.unsafeStr {x y : Operand} {pt it e : TypeId} {b o n cap : Nat} {ys : List Int} (hp : c.P.underlying pt = some (.pointer e)) (hc : Nat.beq (c.P.cellsOf e) 1 = true) (hx : ev env x = some (.pointer (some ⟨b, o, none⟩))) (hy : ev env y = some (.int .i64 (n : Int)))
    (tk : Take1 H (ownR (.slice (some ⟨b, o, none⟩) n cap) e 1 n (ints .u8 ys)) F) (hB : Bytes ys) (h0 : 0 < n) :
    To c env ds H ⟨dst, .call { callee := .builtin .unsafeString, args := #[x, y], argTypes := #[pt, it] }, ty, pos, af, g⟩ (fun _ : Unit => .string (strOfNums ys)) (fun _ => F) := fun a w ha hw => by
  have hown : Sown w e 1 (.slice (some ⟨b, o, none⟩) n cap) n (ints .u8 ys) := hw.get tk
  have hl : n = ys.length := by have := hown.1; rw [ints_length] at this; omega
  subst hl
  rcases hown.2 with ⟨he, _⟩ | ⟨b', o', cap', cur, he, hg, hnc, hcm, hfit, hcur⟩
  · cases he
  · cases he
    have hsh : w.shape? b = some (e, cur.size) := by simp [World.shape?, hg]
    have hr := run_unsafeStr (P := c.P) w pt it ty e hp (Nat.eq_of_beq_eq_true hc) b o cur.size hsh ys hB (by intro e; rw [e] at h0; simp at h0) (by omega) (by unfold maxLen at hcm; omega) (fun j y hj => by
      rw [cell_of_row w b (o + j) cur e (0, 0) hg]
      exact hcur j _ (by unfold ints; rw [List.getElem?_map, hj]; rfl))
    refine ⟨(), _, ?_, hw.let1 tk (Chg.freeze w b o ys.length rfl)⟩
    simp only [execOp, resolve, invoke, builtin, Sem.run_bind, Sem.run_pure, Result.andThen_ok, List.map_toArray, List.map_cons, List.map_nil, ha.ev hx, ha.ev hy, hr]
/-- *T to unsafe.Pointer and back, within a block that is known whole. -/
theorem Yl.toUnsafe {src dstT t : TypeId} {x : Operand} {sz b o : Nat} {T : TypeId} {cs : List Value} (hs : c.P.underlying src = some (.pointer t)) (hd : c.P.underlying dstT = some .unsafePointer) (ht : (c.P.info? t).map (·.size) = some sz) (h0 : sz ≠ 0)
    (hx : ev env x = some (.pointer (some ⟨b, o, none⟩))) (tk : Take1 H (blkR b T cs) F) (ho : o < cs.length) : Yl c env ds H ⟨dst, .convert src dstT x, ty, pos, af, g⟩ (.pointer (some ⟨b, o, none⟩)) := fun a w ha hw => by
  have hb : w.heap[b]? = some (.cells cs.toArray T (0, 0)) := hw.get tk
  have hsh : w.shape? b = some (T, cs.length) := by simp [World.shape?, hb]
  cases hi : c.P.info? t with
  | none => simp [hi] at ht
  | some j =>
    have hj : j.size = sz := by simpa [hi] using ht
    have := run_to_unsafe (P := c.P) w (src := src) (dst := dstT) (t := t) (e := T) (j := j) (cells := cs.length) ⟨b, o, none⟩ hs hd hi (by omega) hsh ho
    simp [execOp, ha.ev hx, this]
theorem Yl.fromUnsafe {src dstT u : TypeId} {x : Operand} {b o : Nat} {T : TypeId} {cs : List Value} (hs : c.P.underlying src = some .unsafePointer) (hd : c.P.underlying dstT = some (.pointer u)) (hu : (c.P.info? u).isSome = true)
    (hx : ev env x = some (.pointer (some ⟨b, o, none⟩))) (tk : Take1 H (blkR b T cs) F) (hl : liesAt c.P c.P.depth T (cs.length / c.P.cellsOf T) o u 1 = true) : Yl c env ds H ⟨dst, .convert src dstT x, ty, pos, af, g⟩ (.pointer (some ⟨b, o, none⟩)) := fun a w ha hw => by
  have hb : w.heap[b]? = some (.cells cs.toArray T (0, 0)) := hw.get tk
  have hsh : w.shape? b = some (T, cs.length) := by simp [World.shape?, hb]
  obtain ⟨j, hj⟩ := Option.isSome_iff_exists.1 hu
  have := run_from_unsafe (P := c.P) w (src := src) (dst := dstT) (u := u) (e := T) (j := j) (cells := cs.length) ⟨b, o, none⟩ hs hd hj hsh hl
  simp [execOp, ha.ev hx, this]
/-- A pointer is unlike itself: no. -/
theorem Yl.nePtr {t t2 e : TypeId} {x y : Operand} {p : Addr} (hp : c.P.underlying t = some (.pointer e)) (he : (c.P.info? e).isSome = true) (hx : ev env x = some (.pointer (some p))) (hy : ev env y = some (.pointer (some p))) :
    Yl c env ds H ⟨dst, .binOp .neq t x y t2, ty, pos, af, g⟩ (.bool false) := by
  obtain ⟨j, hj⟩ := Option.isSome_iff_exists.1 he
  refine Yl.neqG hx hy fun w => ?_
  have := run_neq_ptr_same (P := c.P) w p hp hj
  simp [eqGuard, this]
/-- A string's bytes. -/
theorem Yl.lenT {t : TypeId} {x : Operand} {ys : List Int} (hu : c.P.underlying t = some .string) (hx : ev env x = some (.string (strOfNums ys))) : Yl c env ds H ⟨dst, .call { callee := .builtin .len, args := #[x], argTypes := #[t] }, ty, pos, af, g⟩ (.int .i64 (ys.length : Int)) := by
  have := Yl.lenS (c := c) (env := env) (ds := ds) (H := H) (dst := dst) (ty := ty) (pos := pos) (af := af) (g := g) hu hx
  rwa [strOfNums_size] at this
theorem Yl.idxStr {t : TypeId} {x i : Operand} {k : IntKind} {ys : List Int} {j : Nat} {y : Int} (hu : c.P.underlying t = some .string) (hx : ev env x = some (.string (strOfNums ys))) (hi : ev env i = some (.int k (j : Int))) (hj : ys[j]? = some y) (hB : Bytes ys) :
    Yl c env ds H ⟨dst, .index t x i, ty, pos, af, g⟩ (.int .u8 y) := fun a w ha _ => by
  have hy := hB y (List.mem_of_getElem? hj)
  have hjl := (List.getElem?_eq_some_iff.1 hj).1
  have h1 : (strOfNums ys)[j]? = some (UInt8.ofNat y.toNat) := by
    have hsz : j < (strOfNums ys).size := by rw [strOfNums_size]; exact hjl
    rw [getElem?_pos (strOfNums ys) j hsz]
    have hy : ys[j] = y := by rw [List.getElem?_eq_getElem hjl] at hj; exact Option.some.inj hj
    show some (((ys.map fun n => UInt8.ofNat n.toNat).toArray)[j]'(by simpa using hjl)) = _
    simp [hy]
  have h2 : ((UInt8.ofNat y.toNat).toNat : Int) = y := by
    simp only [UInt8.toNat_ofNat']
    omega
  simp [execOp, ha.ev hx, ha.ev hi, Instr.index, asIntOf, run_underlying hu, h1]
  omega
/-- []byte(s): bytes that may be read. -/
theorem To.strBytes {src dstT e : TypeId} {x : Operand} {ys : List Int} (hs : c.P.underlying src = some .string) (hd : c.P.underlying dstT = some (.slice e)) (he : c.P.underlying e = some (.int .u8)) (hx : ev env x = some (.string (strOfNums ys))) (hB : Bytes ys) (hl : ys.length ≤ maxLen) :
    To c env ds H ⟨dst, .convert src dstT x, ty, pos, af, g⟩ (fun p : Nat × Nat => .slice (some ⟨p.1, 0, none⟩) ys.length p.2) (fun p => rdR (.slice (some ⟨p.1, 0, none⟩) ys.length p.2) 1 ys.length (ints .u8 ys) :: H) := fun a w ha hw => by
  have hr := run_bytes_of_string (P := c.P) w src dstT e (strOfNums ys) hs hd he
  rw [strOfNums_size] at hr
  have hge := grownCap_ge w ys.length 0 e
  have hcm := grownCap_le_maxLen w ys.length 0 e hl
  refine ⟨(w.heap.size, grownCap w ys.length 0 e), w.drew.alloc (.cells (bytesRow (strOfNums ys) (grownCap w ys.length 0 e)) e ((bytesRow (strOfNums ys) (grownCap w ys.length 0 e)).size, (bytesRow (strOfNums ys) (grownCap w ys.length 0 e)).size + 1)), ?_, ?_⟩
  · simp only [execOp, ha.ev hx, hr, Sem.run_bind, Result.andThen_ok, Sem.run_pure]
  · refine OK.upd (A := []) (B := [rdR (.slice (some ⟨w.heap.size, 0, none⟩) ys.length (grownCap w ys.length 0 e)) 1 ys.length (ints .u8 ys)]) (F := H) hw ?_
    refine OK.one (((Chg.drew _ w).trans (Chg.alloc _ _ _))) ?_ (fun k hk => hk.elim) (fun k hk hlt => ?_)
    · refine ⟨by rw [ints_length, Nat.mul_one], .inr ⟨_, _, rfl, hge, hcm, fun j u hj => ⟨rfl, ?_⟩⟩⟩
      rw [Nat.zero_add]
      refine (cell_of_row _ w.heap.size j _ _ _ (heap_alloc_new w.drew _)).trans ?_
      unfold bytesRow
      have hjl : j < ys.length := by have := (List.getElem?_eq_some_iff.1 hj).1; rwa [ints_length] at this
      rw [← strCells_ints hB] at hj
      unfold strCells at hj
      rw [Array.getElem?_append_left (by simp [strOfNums]; exact hjl)]
      simpa using hj
    · obtain ⟨hk, _⟩ := hk
      have hk : w.heap.size = k := hk
      omega
/-- Two strings alike? -/
theorem Yl.sEqT {t t2 : TypeId} {x y : Operand} {xs ys : List Int} (h1 : Bytes xs) (h2 : Bytes ys) (hx : ev env x = some (.string (strOfNums xs))) (hy : ev env y = some (.string (strOfNums ys))) : Yl c env ds H ⟨dst, .binOp .eql t x y t2, ty, pos, af, g⟩ (.bool (decide (xs = ys))) := by
  have := Yl.sEq (c := c) (env := env) (ds := ds) (H := H) (dst := dst) (ty := ty) (pos := pos) (af := af) (g := g) (t := t) (t2 := t2) hx hy
  rwa [strEq h1 h2] at this
end
end Go.Proofs.YtcplbkbimpiioaaGreatDoor
