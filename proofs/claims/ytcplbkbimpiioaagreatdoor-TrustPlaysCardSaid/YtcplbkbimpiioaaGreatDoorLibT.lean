/- The operations, one lemma each, over abstract states: general lemmas of this claim's own, about no program in particular. -/
import Derived.Test.YtcplbkbimpiioaaGreatDoorLibS
import Derived.IntWalk
import Derived.Laws.BytesArg
import Derived.Deep.MidRow
namespace Go.Proofs.YtcplbkbimpiioaaGreatDoor
open Go Go.RowKit

section
variable {c : Cx} {Q : SQ} {env : Env} {ds : List Deferred} {H F : List Res} {ops : Array Oper} {rest : List Oper} {dst : Option Tmp} {ty : TypeId} {pos : String} {af : Array Edge} {g : Option (Nat × Bool)}

/-! ### Operations on values alone -/

theorem Yl.move {x : Operand} {v : Value} (hx : ev env x = some v) : Yl c env ds H ⟨dst, .move x, ty, pos, af, g⟩ v := fun a w ha _ => by
  show (pure (Next.value (a.eval x)) : Sem Next).run c.P w = _
  rw [ha.ev hx]; rfl
theorem Yl.assign {x : Operand} {v : Value} (hx : ev env x = some v) : Yl c env ds H ⟨dst, .assign x, ty, pos, af, g⟩ v := fun a w ha _ => by
  show (pure (Next.value (a.eval x)) : Sem Next).run c.P w = _
  rw [ha.ev hx]; rfl
theorem Yl.pickT {x y z : Operand} {v : Value} (hx : ev env x = some (.bool true)) (hy : ev env y = some v) : Yl c env ds H ⟨dst, .pick x y z, ty, pos, af, g⟩ v := fun a w ha _ => by
  simp [execOp, ha.ev hx, ha.ev hy, asBool]
theorem Yl.pickF {x y z : Operand} {v : Value} (hx : ev env x = some (.bool false)) (hy : ev env z = some v) : Yl c env ds H ⟨dst, .pick x y z, ty, pos, af, g⟩ v := fun a w ha _ => by
  simp [execOp, ha.ev hx, ha.ev hy, asBool]
theorem Yl.nilCheck {x : Operand} {a : Addr} (hx : ev env x = some (.pointer (some a))) : Yl c env ds H ⟨dst, .nilCheck x, ty, pos, af, g⟩ (.pointer (some a)) := fun a w ha _ => by
  simp [execOp, ha.ev hx]
theorem Yl.extract {x : Operand} {i : Nat} {vs : Array Value} {v : Value} (hx : ev env x = some (.tuple vs)) (hi : vs[i]? = some v) : Yl c env ds H ⟨dst, .extract x i, ty, pos, af, g⟩ v := fun a w ha _ => by
  simp [execOp, ha.ev hx, Instr.extract, hi]
theorem Yl.makeFunc {fn : Fn} {xs ys : List Operand} {us vs : List Value} (h1 : evs env xs = some us) (h2 : evs env ys = some vs) : Yl c env ds H ⟨dst, .makeFunc fn xs.toArray ys.toArray, ty, pos, af, g⟩ (.func fn us.toArray vs.toArray) := fun a w ha _ => by
  simp [execOp, ha.evs h1, ha.evs h2, Instr.makeFunc]
theorem Yl.not {t : TypeId} {x : Operand} {b : Bool} (hx : ev env x = some (.bool b)) : Yl c env ds H ⟨dst, .unOp .not t x, ty, pos, af, g⟩ (.bool (!b)) := fun a w ha _ => by
  simp [execOp, ha.ev hx, Op.unary]

section
variable {t t2 : TypeId} {x y : Operand} {k : IntKind} {i j r : Int}

theorem Yl.lss (hx : ev env x = some (.int k i)) (hy : ev env y = some (.int k j)) : Yl c env ds H ⟨dst, .binOp .lss t x y t2, ty, pos, af, g⟩ (.bool (decide (i < j))) := fun a w ha _ => by
  simp [execOp, ha.ev hx, ha.ev hy, eqGuard, binOp, Op.intCmp]
theorem Yl.leq (hx : ev env x = some (.int k i)) (hy : ev env y = some (.int k j)) : Yl c env ds H ⟨dst, .binOp .leq t x y t2, ty, pos, af, g⟩ (.bool (decide (i ≤ j))) := fun a w ha _ => by
  simp [execOp, ha.ev hx, ha.ev hy, eqGuard, binOp, Op.intCmp]
theorem Yl.gtr (hx : ev env x = some (.int k i)) (hy : ev env y = some (.int k j)) : Yl c env ds H ⟨dst, .binOp .gtr t x y t2, ty, pos, af, g⟩ (.bool (decide (j < i))) := fun a w ha _ => by
  simp [execOp, ha.ev hx, ha.ev hy, eqGuard, binOp, Op.intCmp]
theorem Yl.geq (hx : ev env x = some (.int k i)) (hy : ev env y = some (.int k j)) : Yl c env ds H ⟨dst, .binOp .geq t x y t2, ty, pos, af, g⟩ (.bool (decide (j ≤ i))) := fun a w ha _ => by
  simp [execOp, ha.ev hx, ha.ev hy, eqGuard, binOp, Op.intCmp]
theorem Yl.eql (hx : ev env x = some (.int k i)) (hy : ev env y = some (.int k j)) : Yl c env ds H ⟨dst, .binOp .eql t x y t2, ty, pos, af, g⟩ (.bool (decide (i = j))) := fun a w ha _ => by
  have e : (i == j) = decide (i = j) := by by_cases h : i = j <;> simp [h]
  simp [execOp, ha.ev hx, ha.ev hy, eqGuard, binOp, Op.intCmp, e]
theorem Yl.neq (hx : ev env x = some (.int k i)) (hy : ev env y = some (.int k j)) : Yl c env ds H ⟨dst, .binOp .neq t x y t2, ty, pos, af, g⟩ (.bool (decide (i ≠ j))) := fun a w ha _ => by
  have e : (i != j) = decide (i ≠ j) := by by_cases h : i = j <;> simp [h]
  simp [execOp, ha.ev hx, ha.ev hy, eqGuard, binOp, Op.intCmp, e]
theorem Yl.add (hx : ev env x = some (.int k i)) (hy : ev env y = some (.int k j)) (h : k.wrap (i + j) = r) : Yl c env ds H ⟨dst, .binOp .add t x y t2, ty, pos, af, g⟩ (.int k r) := fun a w ha _ => by
  simp [execOp, ha.ev hx, ha.ev hy, eqGuard, binOp, Op.intArith, h]
theorem Yl.sub (hx : ev env x = some (.int k i)) (hy : ev env y = some (.int k j)) (h : k.wrap (i - j) = r) : Yl c env ds H ⟨dst, .binOp .sub t x y t2, ty, pos, af, g⟩ (.int k r) := fun a w ha _ => by
  simp [execOp, ha.ev hx, ha.ev hy, eqGuard, binOp, Op.intArith, h]
theorem Yl.mul (hx : ev env x = some (.int k i)) (hy : ev env y = some (.int k j)) (h : k.wrap (i * j) = r) : Yl c env ds H ⟨dst, .binOp .mul t x y t2, ty, pos, af, g⟩ (.int k r) := fun a w ha _ => by
  simp [execOp, ha.ev hx, ha.ev hy, eqGuard, binOp, Op.intArith, h]
theorem Yl.quo (hx : ev env x = some (.int k i)) (hy : ev env y = some (.int k j)) (h0 : j ≠ 0) (h : k.wrap (i.tdiv j) = r) : Yl c env ds H ⟨dst, .binOp .quo t x y t2, ty, pos, af, g⟩ (.int k r) := fun a w ha _ => by
  simp [execOp, ha.ev hx, ha.ev hy, eqGuard, binOp, Op.intDiv, h, h0]
theorem Yl.rem (hx : ev env x = some (.int k i)) (hy : ev env y = some (.int k j)) (h0 : j ≠ 0) (h : i.tmod j = r) : Yl c env ds H ⟨dst, .binOp .rem t x y t2, ty, pos, af, g⟩ (.int k r) := fun a w ha _ => by
  simp [execOp, ha.ev hx, ha.ev hy, eqGuard, binOp, Op.intDiv, h, h0]
theorem Yl.or (hx : ev env x = some (.int k i)) (hy : ev env y = some (.int k j)) : Yl c env ds H ⟨dst, .binOp .or t x y t2, ty, pos, af, g⟩ (.int k (bits .or k i j)) := fun a w ha _ => by
  simp [execOp, ha.ev hx, ha.ev hy, eqGuard, binOp, intBits_or]
theorem Yl.and (hx : ev env x = some (.int k i)) (hy : ev env y = some (.int k j)) : Yl c env ds H ⟨dst, .binOp .and t x y t2, ty, pos, af, g⟩ (.int k (bits .and k i j)) := fun a w ha _ => by
  simp [execOp, ha.ev hx, ha.ev hy, eqGuard, binOp, intBits_and]
theorem Yl.xor (hx : ev env x = some (.int k i)) (hy : ev env y = some (.int k j)) : Yl c env ds H ⟨dst, .binOp .xor t x y t2, ty, pos, af, g⟩ (.int k (bits .xor k i j)) := fun a w ha _ => by
  simp [execOp, ha.ev hx, ha.ev hy, eqGuard, binOp, intBits_xor]
theorem Yl.shl {yk : IntKind} (hx : ev env x = some (.int k i)) (hy : ev env y = some (.int yk j)) (h0 : 0 ≤ j ∧ j ≤ k.bits) (h : k.wrap (i * 2 ^ j.toNat) = r) : Yl c env ds H ⟨dst, .binOp .shl t x y t2, ty, pos, af, g⟩ (.int k r) := fun a w ha _ => by
  simp [execOp, ha.ev hx, ha.ev hy, eqGuard, binOp, shift_shl k yk i j h0.1 h0.2, h]
theorem Yl.shr {yk : IntKind} (hx : ev env x = some (.int k i)) (hy : ev env y = some (.int yk j)) (h0 : 0 ≤ j ∧ j ≤ k.bits) (h : i / 2 ^ j.toNat = r) : Yl c env ds H ⟨dst, .binOp .shr t x y t2, ty, pos, af, g⟩ (.int k r) := fun a w ha _ => by
  simp [execOp, ha.ev hx, ha.ev hy, eqGuard, binOp, shift_shr k yk i j h0.1 h0.2, h]
theorem Yl.conv {k2 : IntKind} (hs : c.P.underlying t = some (.int k)) (hd : c.P.underlying t2 = some (.int k2)) (hx : ev env x = some (.int k i)) (h : k2.wrap i = r) : Yl c env ds H ⟨dst, .convert t t2 x, ty, pos, af, g⟩ (.int k2 r) := fun a w ha _ => by
  simp [execOp, ha.ev hx, convert, run_underlying hs, run_underlying hd, Conv.intToInt, h]

/-- A comparison of any values, its answer known in whatever world. -/
theorem Yl.eqlG {u v : Value} {b : Bool} (hx : ev env x = some u) (hy : ev env y = some v) (h : ∀ w, (do eqGuard .eql t x y u v; binOp .eql t u v : Sem Value).run c.P w = .ok (.bool b) w) : Yl c env ds H ⟨dst, .binOp .eql t x y t2, ty, pos, af, g⟩ (.bool b) := fun a w ha _ => by
  have := h w
  simp only [execOp, ha.ev hx, ha.ev hy, Sem.run_bind] at this ⊢
  rw [this]; rfl
theorem Yl.neqG {u v : Value} {b : Bool} (hx : ev env x = some u) (hy : ev env y = some v) (h : ∀ w, (do eqGuard .neq t x y u v; binOp .neq t u v : Sem Value).run c.P w = .ok (.bool b) w) : Yl c env ds H ⟨dst, .binOp .neq t x y t2, ty, pos, af, g⟩ (.bool b) := fun a w ha _ => by
  have := h w
  simp only [execOp, ha.ev hx, ha.ev hy, Sem.run_bind] at this ⊢
  rw [this]; rfl
theorem run_equal_nil {P : Program} {e : TypeId} {t : TypeId} (hu : P.underlying t = some (.pointer e)) (p : Option Addr) (w : World) : (Op.equal t (.pointer p) (.pointer none)).run P w = .ok p.isNone w := by
  have e1 : Op.equal t (.pointer p) (.pointer none) = Op.equalIn (9999 + 1) t (.pointer p) (.pointer none) := rfl
  rw [e1, Op.equalIn, Sem.run_bind, run_underlying hu w]
  cases p <;> simp
theorem run_equal_bool {P : Program} {t : TypeId} (hu : P.underlying t = some .bool) (p q : Bool) (w : World) : (Op.equal t (.bool p) (.bool q)).run P w = .ok (p == q) w := by
  have e1 : Op.equal t (.bool p) (.bool q) = Op.equalIn (9999 + 1) t (.bool p) (.bool q) := rfl
  rw [e1, Op.equalIn, Sem.run_bind, run_underlying hu w]
  simp
/-- A pointer against nil. -/
theorem Yl.nilEq {e : TypeId} {p : Option Addr} (hu : c.P.underlying t = some (.pointer e)) (hx : ev env x = some (.pointer p)) (hy : ev env y = some (.pointer none)) : Yl c env ds H ⟨dst, .binOp .eql t x y t2, ty, pos, af, g⟩ (.bool p.isNone) := fun a w ha _ => by
  simp [execOp, ha.ev hx, ha.ev hy, eqGuard, binOp, run_equal_nil hu]
theorem Yl.nilNe {e : TypeId} {p : Option Addr} (hu : c.P.underlying t = some (.pointer e)) (hx : ev env x = some (.pointer p)) (hy : ev env y = some (.pointer none)) : Yl c env ds H ⟨dst, .binOp .neq t x y t2, ty, pos, af, g⟩ (.bool p.isSome) := fun a w ha _ => by
  simp [execOp, ha.ev hx, ha.ev hy, eqGuard, binOp, run_equal_nil hu]
theorem Yl.bEq {p q : Bool} (hu : c.P.underlying t = some .bool) (hx : ev env x = some (.bool p)) (hy : ev env y = some (.bool q)) : Yl c env ds H ⟨dst, .binOp .eql t x y t2, ty, pos, af, g⟩ (.bool (p == q)) := fun a w ha _ => by
  simp [execOp, ha.ev hx, ha.ev hy, eqGuard, binOp, run_equal_bool hu]
theorem Yl.sEq {p q : ByteArray} (hx : ev env x = some (.string p)) (hy : ev env y = some (.string q)) : Yl c env ds H ⟨dst, .binOp .eql t x y t2, ty, pos, af, g⟩ (.bool (p.toList == q.toList)) := fun a w ha _ => by
  simp [execOp, ha.ev hx, ha.ev hy, eqGuard, binOp, Op.stringOp]
end

/-! ### Addresses -/

/-- The offset of a field (of a type that has cells). -/
def fieldOff (P : Program) (s : TypeId) (f : Nat) : Option Nat :=
  match P.underlying s with
  | some (.struct fields) => match fields[f]? with
    | some fd => match P.info? fd.type with
      | some i => bif Nat.beq i.size 0 then none else some fd.offset
      | none => none
    | none => none
  | _ => none

theorem run_fieldAt_of {P : Program} {s : TypeId} {f off : Nat} (h : fieldOff P s f = some off) (b o : Nat) (w : World) : (Instr.fieldAt s (.pointer (some ⟨b, o, none⟩)) f).run P w = .ok (.pointer (some ⟨b, o + off, none⟩)) w := by
  unfold fieldOff at h
  split at h
  · rename_i fields hu
    split at h
    · rename_i fd hf
      split at h
      · rename_i i hi
        cases hs : Nat.beq i.size 0 with
        | true => rw [hs] at h; cases h
        | false =>
          rw [hs] at h
          cases h
          have hne : ¬ i.size = 0 := fun e => by rw [e] at hs; cases hs
          simp [Instr.fieldAt, run_underlying hu, hf, Instr.sureAddr, fieldPlace, sizeOf, typeInfo, hi, hne, Addr.add_lit]
      · cases h
    · cases h
  · cases h

theorem Yl.field {s : TypeId} {x : Operand} {f off b o : Nat} (h : fieldOff c.P s f = some off) (hx : ev env x = some (.pointer (some ⟨b, o, none⟩))) : Yl c env ds H ⟨dst, .fieldAddr s x f, ty, pos, af, g⟩ (.pointer (some ⟨b, o + off, none⟩)) := fun a w ha _ => by
  simp [execOp, ha.ev hx, run_fieldAt_of h]

/-- The whole of an array, as a slice. -/
theorem Yl.sliceArr {t e : TypeId} {x : Operand} {n size b o : Nat} (hu : c.P.underlying t = some (.array n e)) (hsz : (c.P.info? e).map (·.size) = some size) (h0 : n ≠ 0) (hx : ev env x = some (.pointer (some ⟨b, o, none⟩))) :
    Yl c env ds H ⟨dst, .slice t x none none none, ty, pos, af, g⟩ (.slice (some ⟨b, o, none⟩) n n) := fun a w ha _ => by
  cases hi : c.P.info? e with
  | none => simp [hi] at hsz
  | some i => simp [execOp, ha.ev hx, Instr.sliceAt, run_underlying hu, Instr.sureAddr, Instr.sliceBounds, sizeOf, typeInfo, hi, h0, Addr.add]

/-- s[lo:hi], s[lo:], s[:hi], s[:] of a slice, as numbers. -/
def subS (v : Value) (l h m size : Nat) : Value :=
  match v with
  | .slice a _ _ => .slice (if m = l then a else a.map (·.add (l * size))) (h - l) (m - l)
  | v => v

theorem Yl.slice {t e : TypeId} {x : Operand} {size n cap : Nat} {ao : Option Addr} {lo hi : Option Operand} {l h : Nat} (hu : c.P.underlying t = some (.slice e)) (hsz : (c.P.info? e).map (·.size) = some size)
    (hx : ev env x = some (.slice ao n cap)) (hl : match lo with | none => l = 0 | some y => ∃ k, ev env y = some (.int k (l : Int))) (hh : match hi with | none => h = n | some y => ∃ k, ev env y = some (.int k (h : Int)))
    (h1 : l ≤ h) (h2 : h ≤ cap) : Yl c env ds H ⟨dst, .slice t x lo hi none, ty, pos, af, g⟩ (subS (.slice ao n cap) l h cap size) := fun a w ha _ => by
  cases hi' : c.P.info? e with
  | none => simp [hi'] at hsz
  | some i =>
    have hs : i.size = size := by simpa [hi'] using hsz
    cases lo with
    | none =>
      cases hi with
      | none => simp only at hl hh; subst hl hh; simp [execOp, ha.ev hx, Instr.sliceAt, Instr.slice, run_underlying hu, Instr.sliceBounds, sizeOf, typeInfo, hi', hs, subS]
      | some y =>
        obtain ⟨k, hy⟩ := hh
        simp only at hl; subst hl
        simp [execOp, ha.ev hx, ha.ev hy, Instr.sliceAt, Instr.slice, run_underlying hu, Instr.sliceBounds, Instr.sliceBound, asIntOf, sizeOf, typeInfo, hi', hs, subS, h2]
    | some z =>
      obtain ⟨k, hz⟩ := hl
      cases hi with
      | none =>
        simp only at hh; subst hh
        simp [execOp, ha.ev hx, ha.ev hz, Instr.sliceAt, Instr.slice, run_underlying hu, Instr.sliceBounds, Instr.sliceBound, asIntOf, sizeOf, typeInfo, hi', hs, subS, h1]
      | some y =>
        obtain ⟨k', hy⟩ := hh
        simp [execOp, ha.ev hx, ha.ev hy, ha.ev hz, Instr.sliceAt, Instr.slice, run_underlying hu, Instr.sliceBounds, Instr.sliceBound, asIntOf, sizeOf, typeInfo, hi', hs, subS, h1, h2]

/-- s[:n:m]. -/
theorem Yl.slice3 {t e : TypeId} {x y z : Operand} {size n cap : Nat} {ao : Option Addr} {h m : Nat} {k k' : IntKind} (hu : c.P.underlying t = some (.slice e)) (hsz : (c.P.info? e).map (·.size) = some size)
    (hx : ev env x = some (.slice ao n cap)) (hy : ev env y = some (.int k (h : Int))) (hz : ev env z = some (.int k' (m : Int)))
    (h1 : h ≤ m) (h2 : m ≤ cap) : Yl c env ds H ⟨dst, .slice t x none (some y) (some z), ty, pos, af, g⟩ (subS (.slice ao n cap) 0 h m size) := fun a w ha _ => by
  cases hi' : c.P.info? e with
  | none => simp [hi'] at hsz
  | some i =>
    have hs : i.size = size := by simpa [hi'] using hsz
    simp [execOp, ha.ev hx, ha.ev hy, ha.ev hz, Instr.sliceAt, Instr.slice, run_underlying hu, Instr.sliceBounds, Instr.sliceBound, asIntOf, sizeOf, typeInfo, hi', hs, subS, h1, h2]

theorem Rd.sub {w : World} {size : Nat} {ao : Option Addr} {n cap : Nat} {cs : List Value} (r : Rd w size (.slice ao n cap) n cs) (l h : Nat) (h1 : l ≤ h) (h2 : h ≤ n) :
    Rd w size (subS (.slice ao n cap) l h cap size) (h - l) ((cs.drop (l * size)).take ((h - l) * size)) := by
  have := (r.from l (by omega)).take (h - l) (by omega)
  exact this

theorem Rd.sub3 {w : World} {size : Nat} {ao : Option Addr} {n cap : Nat} {cs : List Value} (r : Rd w size (.slice ao n cap) n cs) (m : Nat) (h1 : m ≤ n) :
    Rd w size (subS (.slice ao n cap) 0 m m size) m (cs.take (m * size)) := by
  have t := r.take m h1
  have e : (if m = 0 then ao else ao.map (·.add (0 * size))) = ao := by
    split
    · rfl
    · cases ao with
      | none => rfl
      | some a => simp [Addr.add]
  show Rd w size (.slice (if m = 0 then ao else ao.map (·.add (0 * size))) (m - 0) (m - 0)) m (cs.take (m * size))
  rw [e, Nat.sub_zero]
  refine ⟨t.1, ?_⟩
  rcases t.2 with ⟨he, h0⟩ | ⟨a, cap', he, k1, k2, k3⟩
  · cases he; exact .inl ⟨rfl, rfl⟩
  · cases he
    exact .inr ⟨a, m, rfl, Nat.le_refl _, by omega, k3⟩

/-! ### Reading -/

def Reads (c : Cx) (H : List Res) (v : Value) (size n : Nat) (cs : List Value) : Prop := ∀ w, OK c.w0 c.S H w → Rd w size v n cs

theorem Reads.old {v : Value} {size n : Nat} {cs : List Value} (h : Rd c.w0 size v n cs) (hs : ∀ k, blk v k → ¬ c.S.wr k) : Reads c H v size n cs := fun _ hw => hw.rd h hs
theorem Reads.own {v : Value} {e size n : Nat} {cs : List Value} (t : Take1 H (ownR v e size n cs) F) : Reads c H v size n cs := fun _ hw => Sown.rd (hw.get t)

theorem Rd.of_cells {w : World} {b off n cap size : Nat} {T : TypeId} {cs : List Value} (hb : w.heap[b]? = some (.cells cs.toArray T (0, 0))) (hn : n ≤ cap) (hm : cap ≤ maxLen) (hl : off + n * size ≤ cs.length) :
    Rd w size (.slice (some ⟨b, off, none⟩) n cap) n ((cs.drop off).take (n * size)) := by
  refine ⟨by simp; omega, .inr ⟨_, cap, rfl, hn, hm, fun j u hj => ⟨rfl, ?_⟩⟩⟩
  rw [cell_of_row w b (off + j) _ T (0, 0) hb]
  rw [List.getElem?_take] at hj
  split at hj
  · rw [List.getElem?_drop] at hj
    simpa using hj
  · cases hj

theorem Reads.blk {b off n cap size : Nat} {T : TypeId} {cs : List Value} (t : Take1 H (blkR b T cs) F) (hn : n ≤ cap) (hm : cap ≤ maxLen) (hl : off + n * size ≤ cs.length) : Reads c H (.slice (some ⟨b, off, none⟩) n cap) size n ((cs.drop off).take (n * size)) :=
  fun _ hw => Rd.of_cells (hw.get t) hn hm hl

theorem Reads.cs {v : Value} {size n : Nat} {cs cs' : List Value} (h : Reads c H v size n cs) (e : cs = cs') : Reads c H v size n cs' := e ▸ h

/-- Is it a type whose values lie in one cell? -/
def isOne (P : Program) (t : TypeId) : Bool :=
  match P.underlying t with
  | some (.struct _) | some (.array _ _) | none => false
  | _ => true
def aggB (P : Program) (t : TypeId) (n : Nat) : Bool :=
  match P.underlying t with
  | some (.struct _) | some (.array _ _) => (match P.info? t with | some i => Nat.beq i.size n | none => false)
  | _ => false

theorem run_loadAt_one {P : Program} {t : TypeId} (h : isOne P t = true) {a : Addr} {v : Value} {w : World} (hc : w.cell? a = some v) : (Instr.loadAt t (.pointer (some a))).run P w = .ok v w := by
  have hagg : (isAgg t).run P w = .ok false w := by
    unfold isOne at h
    cases hu : P.underlying t with
    | none => rw [hu] at h; cases h
    | some d =>
      rw [hu] at h
      unfold isAgg
      rw [Sem.run_bind, run_underlying hu w]
      cases d <;> simp_all
  simp [Instr.loadAt, Instr.sureAddr, loadVar, hagg, hc]

theorem run_loadAt_agg {P : Program} {t : TypeId} {n : Nat} (h : aggB P t n = true) {b o : Nat} {cs : List Value} (hl : cs.length = n) {w : World} (hc : ∀ j v, cs[j]? = some v → w.cell? ⟨b, o + j, none⟩ = some v) : (Instr.loadAt t (.pointer (some ⟨b, o, none⟩))).run P w = .ok (.agg cs.toArray) w := by
  unfold aggB at h
  have hi : ∀ i, P.info? t = some i → Nat.beq i.size n = true → (P.info? t).map (·.size) = some cs.length := fun i hi hb => by
    rw [hi]; simp [Nat.eq_of_beq_eq_true hb, hl]
  cases hu : P.underlying t with
  | none => rw [hu] at h; cases h
  | some d =>
    rw [hu] at h
    cases hq : P.info? t with
    | none => rw [hq] at h; cases d <;> simp at h
    | some i =>
      rw [hq] at h
      cases d with
      | struct fs => exact run_loadAt_mid w b o t cs _ hc hu rfl (hi i hq h)
      | array n e => exact run_loadAt_mid w b o t cs _ hc hu rfl (hi i hq h)
      | _ => simp at h

theorem Yl.load {t : TypeId} {x : Operand} {b o : Nat} {T : TypeId} {cs : List Value} {v : Value} (ho : isOne c.P t = true) (hx : ev env x = some (.pointer (some ⟨b, o, none⟩))) (tk : Take1 H (blkR b T cs) F) (hv : cs[o]? = some v) : Yl c env ds H ⟨dst, .load t x, ty, pos, af, g⟩ v := fun a w ha hw => by
  have hb : w.heap[b]? = some (.cells cs.toArray T (0, 0)) := hw.get tk
  have : w.cell? ⟨b, o, none⟩ = some v := by rw [cell_of_row w b o _ T (0, 0) hb]; simpa using hv
  simp [execOp, ha.ev hx, run_loadAt_one ho this]

theorem Yl.loadN {t : TypeId} {x : Operand} {b o n : Nat} {T : TypeId} {cs cs' : List Value} (ho : aggB c.P t n = true) (hx : ev env x = some (.pointer (some ⟨b, o, none⟩))) (tk : Take1 H (blkR b T cs) F) (hl : Nat.ble (o + n) cs.length = true) (he : (cs.drop o).take n = cs') : Yl c env ds H ⟨dst, .load t x, ty, pos, af, g⟩ (.agg cs'.toArray) := fun a w ha hw => by
  replace hl : o + n ≤ cs.length := Nat.le_of_ble_eq_true hl
  have hb : w.heap[b]? = some (.cells cs.toArray T (0, 0)) := hw.get tk
  subst he
  have := run_loadAt_agg (P := c.P) (cs := (cs.drop o).take n) ho (by simp; omega) (b := b) (o := o) (w := w) (fun j v hj => by
    rw [cell_of_row w b (o + j) _ T (0, 0) hb]
    rw [List.getElem?_take] at hj
    split at hj
    · rw [List.getElem?_drop] at hj; simpa using hj
    · cases hj)
  simp [execOp, ha.ev hx, this]

/-- The place of an element. -/
def elemP (v : Value) (j size : Nat) : Value :=
  match v with
  | .slice (some a) _ _ => .pointer (some (a.add (j * size)))
  | _ => undef

theorem Yl.index {t e : TypeId} {x i : Operand} {k : IntKind} {z : Int} {j n size : Nat} {v : Value} {cs : List Value} (hu : c.P.underlying t = some (.slice e)) (hsz : (c.P.info? e).map (·.size) = some size)
    (hx : ev env x = some v) (hi : ev env i = some (.int k z)) (hr : Reads c H v size n cs) (hz : z = (j : Int)) (hj : j < n) : Yl c env ds H ⟨dst, .indexAddr t x i, ty, pos, af, g⟩ (elemP v j size) := fun a w ha hw => by
  subst hz
  cases hi' : c.P.info? e with
  | none => simp [hi'] at hsz
  | some i' =>
    have hs : i'.size = size := by simpa [hi'] using hsz
    rcases (hr w hw).2 with ⟨rfl, h0⟩ | ⟨ad, cap, rfl, h1, h2, h3⟩
    · omega
    · simp [execOp, ha.ev hx, ha.ev hi, Instr.indexAt, asIntOf, run_underlying hu, hj, sizeOf, typeInfo, hi', hs, elemP]

/-- An array's cell. -/
theorem Yl.indexA {t e : TypeId} {x i : Operand} {k : IntKind} {z : Int} {b o j n size : Nat} (hu : c.P.underlying t = some (.array n e)) (hsz : (c.P.info? e).map (·.size) = some size)
    (hx : ev env x = some (.pointer (some ⟨b, o, none⟩))) (hi : ev env i = some (.int k z)) (hz : z = (j : Int)) (hj : j < n) : Yl c env ds H ⟨dst, .indexAddr t x i, ty, pos, af, g⟩ (.pointer (some ⟨b, o + j * size, none⟩)) := fun a w ha hw => by
  subst hz
  cases hi' : c.P.info? e with
  | none => simp [hi'] at hsz
  | some i' =>
    have hs : i'.size = size := by simpa [hi'] using hsz
    simp [execOp, ha.ev hx, ha.ev hi, Instr.indexAt, asIntOf, run_underlying hu, hj, sizeOf, typeInfo, hi', hs, Instr.sureAddr, Addr.add_lit]

theorem Yl.loadE {t : TypeId} {x : Operand} {v u : Value} {j n : Nat} {cs : List Value} (ho : isOne c.P t = true) (hx : ev env x = some (elemP v j 1)) (hr : Reads c H v 1 n cs) (hj : cs[j]? = some u) : Yl c env ds H ⟨dst, .load t x, ty, pos, af, g⟩ u := fun a w ha hw => by
  have r := hr w hw
  rcases r.2 with ⟨rfl, rfl⟩ | ⟨ad, cap, rfl, h1, h2, h3⟩
  · have := r.1
    simp at this
    subst this
    simp at hj
  · obtain ⟨hs, hc⟩ := h3 j u hj
    have ea : ad.add j = ⟨ad.block, ad.off + j, none⟩ := by
      obtain ⟨b, o, sp⟩ := ad
      cases hs
      rw [Addr.add_lit]
    simp [execOp, ha.ev hx, elemP, ea, run_loadAt_one ho hc]

theorem Yl.loadEN {t : TypeId} {x : Operand} {v : Value} {j n size : Nat} {cs cs' : List Value} (ho : aggB c.P t size = true) (h0 : 0 < size) (hx : ev env x = some (elemP v j size)) (hr : Reads c H v size n cs) (hj : j < n) (he : (cs.drop (j * size)).take size = cs') : Yl c env ds H ⟨dst, .load t x, ty, pos, af, g⟩ (.agg cs'.toArray) := fun a w ha hw => by
  have r := hr w hw
  have hlen := r.1
  have hjs : j * size + size ≤ n * size := by rw [← Nat.succ_mul]; exact Nat.mul_le_mul_right _ hj
  rcases r.2 with ⟨rfl, rfl⟩ | ⟨ad, cap, rfl, h1, h2, h3⟩
  · omega
  · have hsp : ad.spot = none := by
      have hl : 0 < cs.length := by omega
      exact (h3 0 cs[0] (List.getElem?_eq_getElem hl)).1
    obtain ⟨b, o, sp⟩ := ad
    cases hsp
    subst he
    have := run_loadAt_agg (P := c.P) (cs := (cs.drop (j * size)).take size) ho (by simp; omega) (b := b) (o := o + j * size) (w := w) (fun i v hi => by
      rw [List.getElem?_take] at hi
      split at hi
      · rw [List.getElem?_drop] at hi
        rw [Nat.add_assoc]
        exact (h3 _ v hi).2
      · cases hi)
    simp [execOp, ha.ev hx, elemP, Addr.add_lit, this]

/-! ### len, strings -/

theorem Yl.len {t e : TypeId} {x : Operand} {ao : Option Addr} {n cap : Nat} (hu : c.P.underlying t = some (.slice e)) (hx : ev env x = some (.slice ao n cap)) : Yl c env ds H ⟨dst, .call { callee := .builtin .len, args := #[x], argTypes := #[t] }, ty, pos, af, g⟩ (.int .i64 (n : Int)) := fun a w ha _ => by
  simp [execOp, resolve, invoke, builtin, Builtin.len_, ha.ev hx, run_underlying hu, goInt]

theorem Yl.lenS {t : TypeId} {x : Operand} {s : ByteArray} (hu : c.P.underlying t = some .string) (hx : ev env x = some (.string s)) : Yl c env ds H ⟨dst, .call { callee := .builtin .len, args := #[x], argTypes := #[t] }, ty, pos, af, g⟩ (.int .i64 (s.size : Int)) := fun a w ha _ => by
  simp [execOp, resolve, invoke, builtin, Builtin.len_, ha.ev hx, run_underlying hu, goInt]

/-- string(b). -/
theorem Yl.toStr {src dstT e : TypeId} {x : Operand} {v : Value} {xs : List Int} (hs : c.P.underlying src = some (.slice e)) (he : c.P.underlying e = some (.int .u8)) (hd : c.P.underlying dstT = some .string)
    (hx : ev env x = some v) (hr : Reads c H v 1 xs.length (ints .u8 xs)) : Yl c env ds H ⟨dst, .convert src dstT x, ty, pos, af, g⟩ (.string (strOfNums xs)) := fun a w ha hw => by
  have r := hr w hw
  have key : (convert src dstT v).run c.P w = .ok (.string (strOfNums xs)) w := by
    rcases r.2 with ⟨rfl, h0⟩ | ⟨ad, cap, rfl, h1, h2, h3⟩
    · have : xs = [] := List.eq_nil_of_length_eq_zero h0
      subst this
      rw [run_convert_bytes_nil w src e hs he 0 0 dstT hd]; rfl
    · by_cases h0 : xs = []
      · subst h0
        rw [run_convert_bytes_string w src dstT e (some ad) _ cap hs he hd]
        exact run_bytesToString w ad 0 cap [] (by simp [loadCells, loadCellsFrom])
      · have hsp : ad.spot = none := by
          obtain ⟨y, ys, rfl⟩ := List.exists_cons_of_ne_nil h0
          exact (h3 0 _ rfl).1
        obtain ⟨b, o, sp⟩ := ad
        cases hsp
        exact run_convert_bytes_arg w src e hs he b o xs.length cap xs rfl (fun i hi => (h3 i _ (ints_get .u8 xs i hi)).2) dstT hd
  simp [execOp, ha.ev hx, key]
end

end Go.Proofs.YtcplbkbimpiioaaGreatDoor
