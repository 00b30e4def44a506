/- Values compared whose cells are all numbers and bools; results that lie in memory: general lemmas of this claim's own, about no program in particular. -/
import Derived.Test.YtcplbkbimpiioaaGreatDoorLibV
import Derived.DeepKeys
namespace Go.Proofs.YtcplbkbimpiioaaGreatDoor
open Go Go.RowKit

/-! ### Types of numbers and bools -/

abbrev Leaf := Option IntKind

def flatFs (P : Program) (g : TypeId → Option (List Leaf)) : List Field → Nat → Option (List Leaf)
  | [], _ => some []
  | f :: fs, off => match g f.type, flatFs P g fs (off + P.cellsOf f.type) with
    | some ks, some r => if f.offset = off ∧ ks.length = P.cellsOf f.type ∧ f.name ≠ "_" then some (ks ++ r) else none
    | _, _ => none

/-- The cells of a type of numbers and bools, in order. -/
def flatT (P : Program) : Nat → TypeId → Option (List Leaf)
  | 0, _ => none
  | d + 1, t => match P.underlying t with
    | some .bool => some [none]
    | some (.int q) => some [some q]
    | some (.array n e) => match flatT P d e with
      | some ks => if ks.length = P.cellsOf e ∧ P.cellsOf t = n * ks.length then some (List.replicate n ks).flatten else none
      | none => none
    | some (.struct fs) => match flatFs P (flatT P d) fs.toList 0 with
      | some ks => if P.cellsOf t = ks.length then some ks else none
      | none => none
    | _ => none

def fit1 : Leaf → Value → Prop
  | none, .bool _ => True
  | some q, .int q' n => q' = q ∧ (Lit.int q n).wf = true
  | _, _ => False

def Fits1 : List Leaf → List Value → Prop
  | [], [] => True
  | k :: ks, c :: cs => fit1 k c ∧ Fits1 ks cs
  | _, _ => False

def toLit : Value → Lit
  | .bool b => .bool b
  | .int k n => .int k n
  | _ => .nil

theorem Fits1.len : ∀ {ks : List Leaf} {cs : List Value}, Fits1 ks cs → cs.length = ks.length
  | [], [], _ => rfl
  | _ :: _, _ :: _, h => by simp [Fits1.len h.2]
  | [], _ :: _, h => h.elim
  | _ :: _, [], h => h.elim

theorem Fits1.app {ks ls : List Leaf} : ∀ {cs : List Value}, Fits1 (ks ++ ls) cs → Fits1 ks (cs.take ks.length) ∧ Fits1 ls (cs.drop ks.length) := by
  induction ks with
  | nil => intro cs h; exact ⟨by simp [Fits1], by simpa using h⟩
  | cons k ks ih =>
    intro cs h
    cases cs with
    | nil => exact h.elim
    | cons c cs =>
      obtain ⟨h1, h2⟩ := h
      obtain ⟨h3, h4⟩ := ih h2
      exact ⟨⟨h1, h3⟩, h4⟩

theorem Fits1.mk {ks ls : List Leaf} {cs ds : List Value} (h : Fits1 ks cs) (k : Fits1 ls ds) : Fits1 (ks ++ ls) (cs ++ ds) := by
  induction ks generalizing cs with
  | nil => cases cs with
    | nil => exact k
    | cons _ _ => exact h.elim
  | cons x ks ih => cases cs with
    | nil => exact h.elim
    | cons c cs => exact ⟨h.1, ih h.2⟩

theorem mapM_some {α β : Type} {f : α → Option β} {g : α → β} : ∀ {l : List α}, (∀ x ∈ l, f x = some (g x)) → l.mapM f = some (l.map g)
  | [], _ => rfl
  | x :: l, h => by
    rw [List.mapM_cons, h x (by simp), mapM_some (fun y hy => h y (by simp [hy]))]
    rfl

theorem flatten_chunks {β : Type} (h : Value → β) (s : Nat) : ∀ (n : Nat) (cs : List Value), cs.length = n * s → ((List.range n).map fun i => ((cs.drop (i * s)).take s).map h).flatten = cs.map h
  | 0, cs, hl => by
    have : cs = [] := List.eq_nil_of_length_eq_zero (by simpa using hl)
    subst this; rfl
  | n + 1, cs, hl => by
    rw [List.range_succ_eq_map, List.map_cons, List.map_map, List.flatten_cons]
    have ih := flatten_chunks h s n (cs.drop s) (by simp [hl, Nat.succ_mul])
    have e : (fun i => ((cs.drop (i * s)).take s).map h) ∘ Nat.succ = fun i => (((cs.drop s).drop (i * s)).take s).map h := by
      funext i
      simp only [Function.comp, Nat.succ_eq_add_one, List.drop_drop, Nat.succ_mul]
      rw [Nat.add_comm]
    rw [e, ih]
    simp only [Nat.zero_mul, List.drop_zero]
    rw [← List.map_append, List.take_append_drop]

theorem Fits1.chunk {ks : List Leaf} : ∀ (n : Nat) {cs : List Value}, Fits1 (List.replicate n ks).flatten cs → ∀ i, i < n → Fits1 ks ((cs.drop (i * ks.length)).take ks.length)
  | 0, _, _, i, hi => by omega
  | n + 1, cs, h, i, hi => by
    rw [List.replicate_succ, List.flatten_cons] at h
    obtain ⟨h1, h2⟩ := h.app
    cases i with
    | zero => simpa using h1
    | succ i =>
      have := Fits1.chunk n h2 i (by omega)
      rw [List.drop_drop, Nat.add_comm] at this
      rwa [Nat.succ_mul]

theorem keyLits_flat {P : Program} : ∀ (d : Nat) {t : TypeId} {ks : List Leaf} {cs : List Value}, flatT P d t = some ks → Fits1 ks cs → P.keyLits d t cs = some (cs.map toLit)
  | 0, _, _, _, h, _ => by simp [flatT] at h
  | d + 1, t, ks, cs, h, hf => by
    unfold flatT at h
    unfold Program.keyLits
    split at h
    · rename_i hu
      cases h
      rw [hu]
      match cs, hf with
      | [.bool b], _ => rfl
    · rename_i q hu
      cases h
      rw [hu]
      match cs, hf with
      | [.int q' n], hf =>
        obtain ⟨⟨rfl, hw⟩, _⟩ := hf
        simp [hw, toLit]
    · rename_i n e hu
      rw [hu]
      split at h
      · rename_i ks' hk
        split at h
        · rename_i hc
          cases h
          have hl := hf.len
          have hlen : cs.length = n * ks'.length := by rw [hl]; simp [List.length_flatten]
          simp only []
          rw [if_pos (by rw [hc.2]; exact hlen), ← hc.1]
          rw [mapM_some (g := fun i => ((cs.drop (i * ks'.length)).take ks'.length).map toLit) (fun i hi => keyLits_flat d hk (hf.chunk n i (List.mem_range.1 hi)))]
          simp only [Option.map_some]
          rw [flatten_chunks toLit ks'.length n cs hlen]
        · cases h
      · cases h
    · rename_i fs hu
      rw [hu]
      split at h
      · rename_i ks' hk
        split at h
        · rename_i hc
          cases h
          simp only []
          have key : ∀ (l : List Field) (off : Nat) (ls : List Leaf) (ds : List Value), flatFs P (flatT P d) l off = some ls → Fits1 ls ds → cs.drop off = ds → l.all (·.name != "_") = true ∧ ∃ r, l.mapM (fun f => P.keyLits d f.type ((cs.drop f.offset).take (P.cellsOf f.type))) = some r ∧ r.flatten = ds.map toLit := by
            intro l
            induction l with
            | nil =>
              intro off ls ds h1 h2 h3
              cases h1
              cases ds with
              | nil => exact ⟨rfl, [], rfl, rfl⟩
              | cons _ _ => exact h2.elim
            | cons f l ih =>
              intro off ls ds h1 h2 h3
              unfold flatFs at h1
              split at h1
              · rename_i k1 r1 e1 e2
                split at h1
                · rename_i hcc
                  cases h1
                  obtain ⟨g1, g2⟩ := h2.app
                  have hd : cs.drop (off + P.cellsOf f.type) = ds.drop k1.length := by rw [← h3, List.drop_drop, hcc.2.1]
                  obtain ⟨a1, r, a2, a3⟩ := ih _ _ _ e2 g2 hd
                  refine ⟨by simp [a1, hcc.2.2], (ds.take k1.length).map toLit :: r, ?_, ?_⟩
                  · rw [List.mapM_cons, a2]
                    have : P.keyLits d f.type ((cs.drop f.offset).take (P.cellsOf f.type)) = some ((ds.take k1.length).map toLit) := by
                      rw [hcc.1, h3, ← hcc.2.1]
                      exact keyLits_flat d e1 g1
                    rw [this]; rfl
                  · rw [List.flatten_cons, a3, ← List.map_append, List.take_append_drop]
                · cases h1
              · cases h1
          obtain ⟨a1, r, a2, a3⟩ := key fs.toList 0 _ cs hk hf (by simp)
          rw [if_pos ⟨by rw [hc]; exact hf.len, by simpa using a1⟩, a2]
          simp [a3]
        · cases h
      · cases h
    · cases h

theorem toLit_inj {ks : List Leaf} : ∀ {xs ys : List Value}, Fits1 ks xs → Fits1 ks ys → xs.map toLit = ys.map toLit → xs = ys := by
  induction ks with
  | nil =>
    intro xs ys h1 h2 _
    cases xs with
    | nil => cases ys with
      | nil => rfl
      | cons _ _ => exact h2.elim
    | cons _ _ => exact h1.elim
  | cons k ks ih =>
    intro xs ys h1 h2 h
    cases xs with
    | nil => exact h1.elim
    | cons x xs => cases ys with
      | nil => exact h2.elim
      | cons y ys =>
        simp only [List.map_cons, List.cons.injEq] at h
        have e := ih h1.2 h2.2 h.2
        have e2 : x = y := by
          have a := h1.1
          have b := h2.1
          have c := h.1
          unfold fit1 at a b
          cases k with
          | none => cases x <;> simp at a; cases y <;> simp at b; simpa [toLit] using c
          | some q => cases x <;> simp at a; cases y <;> simp at b; simpa [toLit] using c
        rw [e, e2]

/-- Are these cells those? -/
noncomputable def eqV (xs ys : List Value) : Bool := @decide (xs = ys) (Classical.propDecidable _)
theorem eqV_iff {xs ys : List Value} : eqV xs ys = true ↔ xs = ys := by unfold eqV; simp
theorem eqV_self (xs : List Value) : eqV xs xs = true := eqV_iff.2 rfl
theorem eqV_ne {xs ys : List Value} (h : xs ≠ ys) : eqV xs ys = false := by
  cases hb : eqV xs ys
  · rfl
  · exact absurd (eqV_iff.1 hb) h

theorem run_equal_flat {P : Program} {m : Nat} {t : TypeId} {ks : List Leaf} (hm : m ≤ 10000) (hk : P.keyTypeAt m t = true) (hf : flatT P m t = some ks) (hw : (match P.underlying t with | some (.struct _) | some (.array _ _) => true | _ => false) = true)
    {xs ys : List Value} (hx : Fits1 ks xs) (hy : Fits1 ks ys) (hc : P.cellsOf t = ks.length) (w : World) : (Op.equal t (.agg xs.toArray) (.agg ys.toArray)).run P w = .ok (eqV xs ys) w := by
  have formed : ∀ zs : List Value, Fits1 ks zs → (Value.agg zs.toArray).formed P t = true := fun zs hz => by
    unfold Value.formed
    cases hu : P.underlying t with
    | none => rw [hu] at hw; cases hw
    | some d => rw [hu] at hw; cases d <;> simp at hw <;> simp [hc, hz.len]
  have := run_equalIn_deep (P := P) (10000 - m) m t hk w m m (.agg xs.toArray) (.agg ys.toArray) _ _ (formed xs hx) (formed ys hy) (by simpa [Value.cells] using keyLits_flat m hf hx) (by simpa [Value.cells] using keyLits_flat m hf hy)
  obtain ⟨r, h1, h2⟩ := this
  have e : Op.equal t (.agg xs.toArray) (.agg ys.toArray) = Op.equalIn (10000 - m + m) t (.agg xs.toArray) (.agg ys.toArray) := by
    rw [Nat.sub_add_cancel hm]; rfl
  rw [e, h1]
  congr 1
  cases hr : r with
  | true => exact (eqV_iff.2 (toLit_inj hx hy (h2.1 hr))).symm
  | false => exact (eqV_ne (fun e => by rw [e] at h2; rw [hr] at h2; exact absurd (h2.2 rfl) (by decide))).symm

/-- What is asked of such a type. -/
structure Flat (P : Program) (t : TypeId) (ks : List Leaf) : Prop where
  eq : ∀ xs ys : List Value, Fits1 ks xs → Fits1 ks ys → ∀ w, (Op.equal t (.agg xs.toArray) (.agg ys.toArray)).run P w = .ok (eqV xs ys) w
  gd : P.eqGuardType P.depth t = false

theorem Flat.mk' {P : Program} {t : TypeId} {ks : List Leaf} (m : Nat) (hm : m ≤ 10000) (h : (P.keyTypeAt m t && !P.eqGuardType P.depth t && (match P.underlying t with | some (.struct _) | some (.array _ _) => true | _ => false) && Nat.beq (P.cellsOf t) ks.length) = true) (hf : flatT P m t = some ks) : Flat P t ks := by
  simp only [Bool.and_eq_true, Bool.not_eq_true'] at h
  obtain ⟨⟨⟨h1, h2⟩, h3⟩, h4⟩ := h
  exact ⟨fun xs ys hx hy w => run_equal_flat hm h1 hf h3 hx hy (Nat.eq_of_beq_eq_true h4) w, h2⟩

section
variable {c : Cx} {Q : SQ} {env : Env} {ds : List Deferred} {H F : List Res} {ops : Array Oper} {rest : List Oper} {dst : Option Tmp} {ty : TypeId} {pos : String} {af : Array Edge} {g : Option (Nat × Bool)}

theorem Yl.eqA {t t2 : TypeId} {ks : List Leaf} {x y : Operand} {xs ys : List Value} (hf : Flat c.P t ks) (hx : ev env x = some (.agg xs.toArray)) (hy : ev env y = some (.agg ys.toArray)) (h1 : Fits1 ks xs) (h2 : Fits1 ks ys) :
    Yl c env ds H ⟨dst, .binOp .eql t x y t2, ty, pos, af, g⟩ (.bool (eqV xs ys)) := Yl.eqlG hx hy fun w => by
  simp [eqGuard, hf.gd, binOp, hf.eq xs ys h1 h2 w]
theorem Yl.neA {t t2 : TypeId} {ks : List Leaf} {x y : Operand} {xs ys : List Value} (hf : Flat c.P t ks) (hx : ev env x = some (.agg xs.toArray)) (hy : ev env y = some (.agg ys.toArray)) (h1 : Fits1 ks xs) (h2 : Fits1 ks ys) :
    Yl c env ds H ⟨dst, .binOp .neq t x y t2, ty, pos, af, g⟩ (.bool (!(eqV xs ys))) := Yl.neqG hx hy fun w => by
  simp [eqGuard, hf.gd, binOp, hf.eq xs ys h1 h2 w]

end

/-! ### Results that lie in memory -/

theorem run_loadVar_agg {P : Program} {t : TypeId} {n : Nat} (h : aggB P t n = true) {b o : Nat} {cs : List Value} (hl : cs.length = n) {w : World} (hc : ∀ j v, cs[j]? = some v → w.cell? ⟨b, o + j, none⟩ = some v) : (loadVar t ⟨b, o, none⟩).run P w = .ok (.agg cs.toArray) w := by
  have := run_loadAt_agg (P := P) h hl (b := b) (o := o) (w := w) hc
  simpa [Instr.loadAt, Instr.sureAddr] using this

theorem OK.cells {w0 : World} {S : Pm} {H F : List Res} {w : World} {b : Nat} {T : TypeId} {cs : List Value} (h : OK w0 S H w) (t : Take1 H (blkR b T cs) F) : ∀ j v, cs[j]? = some v → w.cell? ⟨b, 0 + j, none⟩ = some v := fun j v hj => by
  have hb : w.heap[b]? = some (.cells cs.toArray T (0, 0)) := h.get t
  rw [cell_of_row w b (0 + j) _ T (0, 0) hb]
  simpa using hj

/-- One result, a struct or an array in memory. -/
theorem retC1 {c : Cx} {fn : Func} {R : Ending → World → Prop} {e : Exit} {env : Env} {H F : List Res} {t T n b : Nat} {T' : TypeId} {cs : List Value} (he : e = .normal ∨ e = .ret) (hr : fn.results = #[.cell t T]) (ha : aggB c.P T n = true)
    (hv : Env.get env t = some (.pointer (some ⟨b, 0, none⟩))) (tk : Take1 H (blkR b T' cs) F) (hl : cs.length = n) (h : ∀ w, OK c.w0 c.S H w → R (.returned (.agg cs.toArray)) w) : retS c fn R e env [] H := by
  refine retG he (fun tmps w ht hw => ?_) h
  simp [results, hr, ht t _ hv, asAddr, run_loadVar_agg ha hl (hw.cells tk)]

/-- One result of one cell, in memory. -/
theorem retV1 {c : Cx} {fn : Func} {R : Ending → World → Prop} {e : Exit} {env : Env} {H F : List Res} {t T b : Nat} {T' : TypeId} {v : Value} {cs : List Value} (he : e = .normal ∨ e = .ret) (hr : fn.results = #[.cell t T]) (ha : isOne c.P T = true)
    (hv : Env.get env t = some (.pointer (some ⟨b, 0, none⟩))) (tk : Take1 H (blkR b T' (v :: cs)) F) (h : ∀ w, OK c.w0 c.S H w → R (.returned v) w) : retS c fn R e env [] H := by
  refine retG he (fun tmps w ht hw => ?_) h
  have hc := hw.cells tk 0 v rfl
  have := run_loadAt_one (P := c.P) ha hc
  simp [Instr.loadAt, Instr.sureAddr] at this
  simp [results, hr, ht t _ hv, asAddr, this]

end Go.Proofs.YtcplbkbimpiioaaGreatDoor
