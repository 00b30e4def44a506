/- Rows of values of one type (of one cell each, or of so many), owned rows cut, cleared; predicates handed over: rules. -/
import Derived.Test.YtcplbkbimpiioaaGreatDoorLibZ
namespace Go.Proofs.YtcplbkbimpiioaaGreatDoor
open Go Go.RowKit

/-- An element type's values. -/
inductive VT (P : Program) (e : TypeId) : Nat → {α : Type} → (α → Prop) → (α → Value) → Prop
  | one {α : Type} {G : α → Prop} {val : α → Value} (h : isOne P e = true) (hs : (P.info? e).map (·.size) = some 1) (hv : ∀ x, (val x).cells = #[val x] ∧ (val x).oneCell' = true) : VT P e 1 G val
  | agg {α : Type} {G : α → Prop} {val : α → Value} {s : Nat} {cel : α → List Value} (h : aggB P e s = true) (hs : (P.info? e).map (·.size) = some s) (h0 : 0 < s) (he : ∀ x, val x = .agg (cel x).toArray) (hl : ∀ x, G x → (cel x).length = s) (h1 : ∀ x, ∀ u ∈ cel x, u.oneCell' = true) : VT P e s G val

def vcs {α : Type} (val : α → Value) (xs : List α) : List Value := flat (xs.map val)
theorem flat_app : ∀ {xs ys : List Value}, flat (xs ++ ys) = flat xs ++ flat ys
  | [], _ => rfl
  | x :: xs, ys => by
    show x.cells.toList ++ flat (xs ++ ys) = (x.cells.toList ++ flat xs) ++ flat ys
    rw [flat_app, List.append_assoc]
theorem vcs_app {α : Type} {val : α → Value} {xs ys : List α} : vcs val (xs ++ ys) = vcs val xs ++ vcs val ys := by unfold vcs; rw [List.map_append, flat_app]
theorem vcs_cons {α : Type} {val : α → Value} {x : α} {xs : List α} : vcs val (x :: xs) = (val x).cells.toList ++ vcs val xs := rfl
section
variable {P : Program} {e : TypeId} {s : Nat} {α : Type} {G : α → Prop} {val : α → Value}
theorem VT.len (h : VT P e s G val) {x : α} (hx : G x) : (val x).cells.toList.length = s := by
  cases h with
  | one _ _ hv => rw [(hv x).1]; rfl
  | agg _ _ _ he hl _ => rw [he x]; simpa [Value.cells] using hl x hx
theorem VT.pos (h : VT P e s G val) : 0 < s := by
  cases h with
  | one => decide
  | agg _ _ h0 _ _ _ => exact h0
theorem VT.ones1 (h : VT P e s G val) (x : α) : ∀ u ∈ (val x).cells.toList, u.oneCell' = true := by
  cases h with
  | one _ _ hv => rw [(hv x).1]; intro u hu; simp at hu; subst hu; exact (hv x).2
  | agg _ _ _ he _ h1 => rw [he x]; intro u hu; exact h1 x u (by simpa [Value.cells] using hu)
theorem VT.ones (h : VT P e s G val) (xs : List α) : ∀ u ∈ vcs val xs, u.oneCell' = true := by
  induction xs with
  | nil => intro u hu; simp [vcs, flat] at hu
  | cons x xs ih =>
    intro u hu
    rw [vcs_cons] at hu
    rcases List.mem_append.1 hu with h1 | h1
    · exact h.ones1 x u h1
    · exact ih u h1
theorem VT.size (h : VT P e s G val) {xs : List α} (hx : ∀ x ∈ xs, G x) : (vcs val xs).length = xs.length * s := by
  induction xs with
  | nil => simp [vcs, flat]
  | cons x xs ih =>
    rw [vcs_cons, List.length_append, h.len (hx x (by simp)), ih (fun y hy => hx y (by simp [hy])), List.length_cons, Nat.succ_mul, Nat.add_comm]
theorem VT.drop (h : VT P e s G val) : ∀ {xs : List α} (i : Nat), (∀ x ∈ xs, G x) → (vcs val xs).drop (i * s) = vcs val (xs.drop i)
  | xs, 0, _ => by simp
  | [], i + 1, _ => by simp [vcs, flat]
  | x :: xs, i + 1, hx => by
    rw [vcs_cons, List.drop_succ_cons, Nat.succ_mul, Nat.add_comm, ← List.drop_drop, List.drop_left' (h.len (hx x (by simp)))]
    exact h.drop i (fun y hy => hx y (by simp [hy]))
theorem VT.take (h : VT P e s G val) : ∀ {xs : List α} (i : Nat), (∀ x ∈ xs, G x) → (vcs val xs).take (i * s) = vcs val (xs.take i)
  | xs, 0, _ => by simp [vcs, flat]
  | [], i + 1, _ => by simp [vcs, flat]
  | x :: xs, i + 1, hx => by
    rw [vcs_cons, List.take_succ_cons, vcs_cons, Nat.succ_mul, Nat.add_comm, ← h.len (hx x (by simp)), List.take_length_add_append, h.len (hx x (by simp)), h.take i (fun y hy => hx y (by simp [hy]))]
theorem VT.at (h : VT P e s G val) {xs : List α} (hx : ∀ x ∈ xs, G x) {j : Nat} {x : α} (hj : xs[j]? = some x) : ((vcs val xs).drop (j * s)).take s = (val x).cells.toList := by
  obtain ⟨hlt, rfl⟩ := List.getElem?_eq_some_iff.1 hj
  rw [h.drop j hx, List.drop_eq_getElem_cons hlt, vcs_cons, List.take_left' (h.len (hx _ (List.getElem_mem hlt)))]
theorem VT.set (h : VT P e s G val) {xs : List α} (hx : ∀ x ∈ xs, G x) {j : Nat} {x : α} (hj : j < xs.length) : vcs val (xs.set j x) = (vcs val xs).take (j * s) ++ (val x).cells.toList ++ (vcs val xs).drop (j * s + s) := by
  rw [← Nat.succ_mul, h.drop (j + 1) hx, h.take j hx, List.set_eq_take_append_cons_drop, if_pos hj, vcs_app, vcs_cons, List.append_assoc]
end

/-! ### Owned rows, cut -/
theorem Sown.subG {w : World} {e : TypeId} {s : Nat} {ao : Option Addr} {n cap : Nat} {cs : List Value} (h : Sown w e s (.slice ao n cap) n cs) {l hh m : Nat} (h1 : l ≤ hh) (h2 : hh ≤ m) (h4 : m ≤ cap) (h3 : hh ≤ n) :
    Sown w e s (subS (.slice ao n cap) l hh m s) (hh - l) ((cs.drop (l * s)).take ((hh - l) * s)) := by
  have hlen := h.1
  have e1 : (hh - l) * s = hh * s - l * s := Nat.sub_mul ..
  have e2 : hh * s ≤ n * s := Nat.mul_le_mul_right _ h3
  refine ⟨by rw [List.length_take, List.length_drop, hlen]; omega, ?_⟩
  rcases h.2 with ⟨hv, h0⟩ | ⟨b, off, cap', cur, hv, hb, g1, g2, g3, g4⟩
  · cases hv
    obtain rfl : m = 0 := by omega
    obtain rfl : hh = 0 := by omega
    obtain rfl : l = 0 := by omega
    exact .inl ⟨by simp [subS], rfl⟩
  · cases hv
    right
    have e3 : m * s ≤ cap * s := Nat.mul_le_mul_right _ h4
    by_cases hc : m = l
    · obtain rfl : hh = l := by omega
      subst hc
      exact ⟨b, off, 0, cur, by simp [subS], hb, by omega, by omega, by omega, fun j u hj => by simp at hj⟩
    · have e4 : (m - l) * s = m * s - l * s := Nat.sub_mul ..
      have e5 : l * s ≤ m * s := Nat.mul_le_mul_right _ (by omega)
      refine ⟨b, off + l * s, m - l, cur, by simp [subS, hc, Addr.add_lit], hb, by omega, by omega, by omega, fun j u hj => ?_⟩
      rw [List.getElem?_take] at hj
      split at hj
      · rw [List.getElem?_drop] at hj
        rw [Nat.add_assoc]
        exact g4 _ u hj
      · cases hj
theorem blk_subS {v : Value} {l h m s k : Nat} (hk : blk (subS v l h m s) k) : blk v k := by
  cases v with
  | slice ao n cap =>
    cases ao with
    | none => simp [subS] at hk; exact hk.elim
    | some a =>
      simp only [subS] at hk
      split at hk
      · exact hk
      · obtain ⟨b, o, sp⟩ := a
        have : ((⟨b, o, sp⟩ : Addr).add (l * s)).block = b := by unfold Addr.add; split <;> rfl
        show b = k
        rw [← this]; exact hk
  | _ => exact hk
theorem OK.subG {w0 : World} {S : Pm} {H F : List Res} {w : World} {e : TypeId} {s : Nat} {ao : Option Addr} {n cap : Nat} {cs : List Value} (h : OK w0 S H w) (t : Take1 H (ownR (.slice ao n cap) e s n cs) F) {l hh m : Nat} (h1 : l ≤ hh) (h2 : hh ≤ m) (h4 : m ≤ cap) (h3 : hh ≤ n) {cs' : List Value} (he : (cs.drop (l * s)).take ((hh - l) * s) = cs') :
    OK w0 S (ownR (subS (.slice ao n cap) l hh m s) e s (hh - l) cs' :: F) w := by
  subst he
  exact h.recast t (fun hs => Sown.subG hs h1 h2 h4 h3) (fun k hk => blk_subS hk)

theorem segPut {cs ys : List Value} {cur : Array Value} {off p : Nat} (h : ∀ j u, cs[j]? = some u → cur[off + j]? = some u) (h1 : p + ys.length ≤ cs.length) (h2 : off + cs.length ≤ cur.toList.length) : ∀ i u, (cs.take p ++ ys ++ cs.drop (p + ys.length))[i]? = some u → (cur.toList.take (off + p) ++ ys ++ cur.toList.drop (off + p + ys.length))[off + i]? = some u := by
  intro i u hi
  rw [List.append_assoc] at hi ⊢
  by_cases c1 : i < p
  · rw [List.getElem?_append_left (by rw [List.length_take]; omega), List.getElem?_take, if_pos c1] at hi
    rw [List.getElem?_append_left (by rw [List.length_take]; omega), List.getElem?_take, if_pos (by omega)]
    simpa using h i u hi
  · rw [List.getElem?_append_right (by rw [List.length_take]; omega), List.length_take, Nat.min_eq_left (by omega)] at hi
    rw [List.getElem?_append_right (by rw [List.length_take]; omega), List.length_take, Nat.min_eq_left (by omega), show off + i - (off + p) = i - p by omega]
    by_cases c2 : i - p < ys.length
    · rw [List.getElem?_append_left c2] at hi ⊢
      exact hi
    · rw [List.getElem?_append_right (by omega), List.getElem?_drop] at hi ⊢
      have := h _ u hi
      rw [show off + p + ys.length + (i - p - ys.length) = off + (p + ys.length + (i - p - ys.length)) by omega]
      simpa using this

section
variable {c : Cx} {Q : SQ} {env : Env} {ds : List Deferred} {H F A : List Res} {ops : Array Oper} {rest : List Oper} {d : Nat} {op : Op} {dst : Option Tmp} {ty : TypeId} {pos : String} {af : Array Edge} {g : Option (Nat × Bool)}

/-- A load of an element. -/
theorem Yl.loadV {t : TypeId} {s : Nat} {α : Type} {G : α → Prop} {val : α → Value} {x : Operand} {v : Value} {j n : Nat} {xs : List α} {u : α} (hv : VT c.P t s G val) (hG : ∀ x ∈ xs, G x) (hx : ev env x = some (elemP v j s)) (hr : Reads c H v s n (vcs val xs)) (hn : xs.length = n) (hj : xs[j]? = some u) :
    Yl c env ds H ⟨dst, .load t x, ty, pos, af, g⟩ (val u) := by
  have hat := hv.at hG hj
  have hlt := (List.getElem?_eq_some_iff.1 hj).1
  cases hv with
  | one h hs hv =>
    refine Yl.loadE h hx hr (j := j) ?_
    rw [(hv u).1, Nat.mul_one] at hat
    have : (vcs val xs)[j]? = (((vcs val xs).drop j).take 1)[0]? := by rw [List.getElem?_take, if_pos (by decide), List.getElem?_drop]; rfl
    rw [this, hat]; rfl
  | agg h hs h0 he hl h1 =>
    rw [he u]
    exact Yl.loadEN h h0 hx hr (j := j) (by omega) (by rw [hat, he u]; simp [Value.cells])

/-- A store of an element. -/
theorem Sto.elemV {t e : TypeId} {s : Nat} {α : Type} {G : α → Prop} {val : α → Value} {x y : Operand} {v : Value} {j n : Nat} {xs : List α} {u : α} (hv : VT c.P t s G val) (hG : ∀ x ∈ xs, G x) (hu : G u) (hx : ev env x = some (elemP v j s)) (hy : ev env y = some (val u)) (tk : Take1 H (ownR v e s n (vcs val xs)) F)
    (hn : xs.length = n) (hj : j < n) : Sto c env ds H ⟨dst, .store t x y, ty, pos, af, g⟩ (ownR v e s n (vcs val (xs.set j u)) :: F) := fun a w ha hw => by
  have hset := hv.set hG (x := u) (j := j) (by omega)
  have hsize := hv.size hG
  rw [hn] at hsize
  cases hv with
  | one h hsz hvv =>
    have hm : ∀ l : List α, vcs val l = l.map val := fun l => by
      induction l with
      | nil => rfl
      | cons x l ih => rw [vcs_cons, ih, (hvv x).1]; rfl
    exact Sto.elem hsz hx hy tk (hvv u).2 hj (by rw [hm, hm, List.map_set]) a w ha hw
  | @agg _ _ _ _ cel h hsz h0 hel hl h1 =>
    have hs : Sown w e s v n (vcs val xs) := hw.get tk
    have hyl := hl u hu
    have hy1 := h1 u
    rw [hel u] at hset hy
    simp only [Value.cells, List.toList_toArray] at hset
    rw [hset]
    generalize cel u = ys at hy hyl hy1 ⊢
    subst hyl
    clear hset
    generalize vcs val xs = cs at hs hsize tk ⊢
    have hjs : j * ys.length + ys.length ≤ n * ys.length := by rw [← Nat.succ_mul]; exact Nat.mul_le_mul_right _ hj
    cases hq : c.P.info? t with
    | none => simp [hq] at hsz
    | some i =>
      have his : i.size = ys.length := by simpa [hq] using hsz
      rcases hs.2 with ⟨rfl, h00⟩ | ⟨b, off, cap, cur, rfl, hb, g1, g2, g3, g4⟩
      · omega
      · have hcap : n * ys.length ≤ cap * ys.length := Nat.mul_le_mul_right _ g1
        have hst := run_storeCells_at c.P b (off + j * ys.length) e ys 0 cur w hb (by omega) hy1
        simp only [Nat.add_zero] at hst
        refine ⟨_, by simp [execOp, ha.ev hx, ha.ev hy, elemP, Addr.add_lit, Instr.storeAt, Instr.sureAddr, storeVar, sizeOf, typeInfo, hq, his, Value.cells, hst]; rfl, ?_⟩
        refine hw.turn tk (r' := ownR (.slice (some ⟨b, off, none⟩) n cap) e ys.length n (cs.take (j * ys.length) ++ ys ++ cs.drop (j * ys.length + ys.length))) ⟨rfl, rfl, rfl, by simp, fun k _ hk => setRow_other w b k _ (fun e => hk e.symm)⟩ ?_ (fun k hk => .inl hk)
        have hcl : cur.toList.length = cur.size := Array.length_toList
        refine ⟨by rw [List.length_append, List.length_append, List.length_take, List.length_drop]; omega, .inr ⟨b, off, cap, _, rfl, setRow_heap w b cur _ e _ hb, g1, g2, by rw [List.size_toArray, List.length_append, List.length_append, List.length_take, List.length_drop]; omega, fun i u hi => ?_⟩⟩
        rw [List.getElem?_toArray]
        have := segPut g4 (by omega) (by omega) i u hi
        rw [List.append_assoc] at this
        exact this

/-- An operation for its effect alone, whose value nobody takes. -/
def Eff (c : Cx) (env : Env) (ds : List Deferred) (H : List Res) (o : Oper) (H' : List Res) : Prop :=
  ∀ a w, Has env c.n ds a → OK c.w0 c.S H w → ∃ v w', (execOp a.eval o).run c.P w = .ok (.value v) w' ∧ OK c.w0 c.S H' w'
theorem WL.eff {H' : List Res} (h : Eff c env ds H ⟨none, op, ty, pos, af, none⟩ H') (k : WL c ops Q rest env ds H') : WL c ops Q (⟨none, op, ty, pos, af, none⟩ :: rest) env ds H :=
  ⟨fun a w ha hw => wpListIn_plain rfl fun K hK => ⟨fun _ _ => trivial, by
    obtain ⟨v, w', h1, h2⟩ := h a w ha hw
    rw [semAt_value h1]
    exact hK _ _ (k.run _ _ (ha.putNone _) h2)⟩⟩

/-- clear, of an end of an owned row; what stands ahead of it is kept. -/
theorem Eff.clear {t e : TypeId} {x : Operand} {z : Value} {s bytes n cap i : Nat} {ao : Option Addr} {cs cs' : List Value} (hT : SlT c.P t e z s bytes) (hz1 : ∀ u ∈ z.cells.toList, u.oneCell' = true) (hx : ev env x = some (subS (.slice ao n cap) i n cap s)) (tk : Take1 H (ownR (.slice ao n cap) e s n cs) F) (hi : i ≤ n) (hcs : cs.take (i * s) = cs') :
    Eff c env ds H ⟨dst, .call { callee := .builtin .clear, args := #[x], argTypes := #[t] }, ty, pos, af, g⟩ (ownR (subS (.slice ao n cap) 0 i cap s) e s i cs' :: F) := fun a w ha hw => by
  obtain ⟨ht, ⟨inf, hi1, hz, rfl, rfl⟩, hzs, hsz⟩ := hT
  have hs : Sown w e inf.size (.slice ao n cap) n cs := hw.get tk
  have hcap := hs.le
  have hsame : OK c.w0 c.S (ownR (subS (.slice ao n cap) 0 i cap inf.size) e inf.size i cs' :: F) w := by
    have := hw.subG tk (l := 0) (hh := i) (m := cap) (Nat.zero_le _) (by omega) (Nat.le_refl _) hi (cs' := cs') (by rw [Nat.zero_mul, List.drop_zero, Nat.sub_zero]; exact hcs)
    rwa [Nat.sub_zero] at this
  have hzv : ∀ w, (zeroValue e).run c.P w = .ok z w := fun w => by simp [zeroValue, typeInfo, hi1, hz]
  rcases Nat.eq_or_lt_of_le hi with rfl | hlt
  · refine ⟨.tuple #[], w, ?_, hsame⟩
    have e1 : i - i = 0 := Nat.sub_self i
    cases ao with
    | none => simp [execOp, ha.ev hx, resolve, invoke, builtin, Builtin.clear_, run_underlying ht, subS, e1]
    | some a0 =>
      simp only [execOp, ha.ev hx, resolve, invoke, builtin, subS, e1, Sem.run_bind, Sem.run_pure, Result.andThen_ok, List.map_toArray, List.map_cons, List.map_nil]
      split <;> simp [Builtin.clear_, run_underlying ht]
  · rcases hs.2 with ⟨hv, h0⟩ | ⟨b, off, cap', cur, hv, hb, g1, g2, g3, g4⟩
    · omega
    · cases hv
      have hne : ¬ cap = i := by omega
      obtain ⟨ys, hys⟩ : ∃ ys, (Builtin.zeroCells z.cells (n - i)).toList = ys := ⟨_, rfl⟩
      have hyl : ys.length = (n - i) * inf.size := by rw [← hys]; simp [Builtin.zeroCells, hzs]
      have hy1 : ∀ u ∈ ys, u.oneCell' = true := by
        intro u hu
        rw [← hys] at hu
        simp only [Builtin.zeroCells, Array.toList_map, List.mem_map] at hu
        obtain ⟨q, hq, rfl⟩ := hu
        have : q % z.cells.size < z.cells.size := Nat.mod_lt _ (by omega)
        rw [getElem!_pos z.cells _ this]
        exact hz1 _ (Array.getElem_mem_toList this)
      have e1 : (n - i) * inf.size = n * inf.size - i * inf.size := Nat.sub_mul ..
      have e2 : i * inf.size ≤ n * inf.size := Nat.mul_le_mul_right _ hi
      have e3 : n * inf.size ≤ cap * inf.size := Nat.mul_le_mul_right _ g1
      have hcl : cur.toList.length = cur.size := Array.length_toList
      have hst := run_storeCells_at c.P b (off + i * inf.size) e ys 0 cur w hb (by omega) hy1
      simp only [Nat.add_zero] at hst
      obtain ⟨m, hm⟩ : ∃ m, n - i = m + 1 := ⟨n - i - 1, by omega⟩
      refine ⟨.tuple #[], _, ?_, hw.turn tk (r' := ownR (subS (.slice (some ⟨b, off, none⟩) n cap) 0 i cap inf.size) e inf.size i cs') (w' := w.setRow b (cur.toList.take (off + i * inf.size) ++ ys ++ cur.toList.drop (off + i * inf.size + ys.length)).toArray) ⟨rfl, rfl, rfl, by simp, fun k _ hk => setRow_other w b k _ (fun e => hk e.symm)⟩ ?_ (fun k hk => .inl (blk_subS hk))⟩
      · simp only [execOp, ha.ev hx, resolve, invoke, builtin, subS, hne, if_false, Option.map_some, Addr.add_lit, Sem.run_bind, Sem.run_pure, Result.andThen_ok, List.map_toArray, List.map_cons, List.map_nil]
        rw [hm] at hys ⊢
        simp [Builtin.clear_, run_underlying ht, hzv, hys, hst]
      · have hnew : Sown (w.setRow b (cur.toList.take (off + i * inf.size) ++ ys ++ cur.toList.drop (off + i * inf.size + ys.length)).toArray) e inf.size (.slice (some ⟨b, off, none⟩) i cap) i cs' := by
          subst hcs
          have hlen := hs.1
          refine ⟨by rw [List.length_take]; omega, .inr ⟨b, off, cap, _, rfl, setRow_heap w b cur _ e _ hb, by omega, g2, by rw [List.size_toArray, List.length_append, List.length_append, List.length_take, List.length_drop]; omega, fun q u hq => ?_⟩⟩
          rw [List.getElem?_take] at hq
          split at hq
          · rw [List.getElem?_toArray, List.append_assoc, List.getElem?_append_left (by rw [List.length_take]; omega), List.getElem?_take, if_pos (by omega)]
            simpa using g4 q u hq
          · cases hq
        have hv2 : subS (.slice (some ⟨b, off, none⟩) n cap) 0 i cap inf.size = .slice (some ⟨b, off, none⟩) i cap := by
          simp [subS, Addr.add]
        show Sown _ e inf.size (subS _ 0 i cap inf.size) i cs'
        rw [hv2]
        exact hnew

/-! ### Predicates handed over -/

/-- A function value that tells p of each good thing, and changes nothing, whatever becomes of what may be written. -/
structure PredS (P : Program) (w : World) (T : Pm) (f : FuncId) (cap : List Value) {α : Type} (G : α → Prop) (val : α → Value) (p : α → Bool) : Prop where
  en : ∀ args w, (callFunc f args).run P w = .ok (.enter f args) w
  gives : ∀ w', Chg T.wr w w' → ∀ x, G x → Fn P f (val x :: cap) [] w' (fun _ : Unit => True) (fun _ => .bool (p x)) (fun _ => [])
/-- A slice against nil. -/
theorem Yl.eqNil {t t2 e : TypeId} {x y : Operand} {ao : Option Addr} {n cap : Nat} (hu : c.P.underlying t = some (.slice e)) (hx : ev env x = some (.slice ao n cap)) (hy : ev env y = some (.slice none 0 0)) : Yl c env ds H ⟨dst, .binOp .eql t x y t2, ty, pos, af, g⟩ (.bool ao.isNone) := fun a w ha _ => by
  have e1 : (Op.equal t (.slice ao n cap) (.slice none 0 0)).run c.P w = .ok ao.isNone w := by
    have e1 : Op.equal t (.slice ao n cap) (.slice none 0 0) = Op.equalIn (9999 + 1) t (.slice ao n cap) (.slice none 0 0) := rfl
    rw [e1, Op.equalIn, Sem.run_bind, run_underlying hu w]
    cases ao <;> simp
  simp [execOp, ha.ev hx, ha.ev hy, eqGuard, binOp, e1]
theorem To.view {α : Type} {v : α → Value} {H' : List Res} {H2 : α → List Res} {o : Oper} (h : ∀ w, OK c.w0 c.S H w → OK c.w0 c.S H' w) (k : To c env ds H' o v H2) : To c env ds H o v H2 := fun a w ha hw => k a w ha (h w hw)
theorem Sto.view {H' H2 : List Res} {o : Oper} (h : ∀ w, OK c.w0 c.S H w → OK c.w0 c.S H' w) (k : Sto c env ds H' o H2) : Sto c env ds H o H2 := fun a w ha hw => k a w ha (h w hw)
end

end Go.Proofs.YtcplbkbimpiioaaGreatDoor
