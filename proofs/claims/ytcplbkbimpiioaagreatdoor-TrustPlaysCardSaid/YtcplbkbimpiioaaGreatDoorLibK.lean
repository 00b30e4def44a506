/- Maps, over abstract states: a map as a list of its entries: general lemmas of this claim's own, about no program in particular. -/
import Derived.Test.YtcplbkbimpiioaaGreatDoorLibQ
import Derived.Maps.Keyed
import Derived.DeepKeys4
import Derived.Carry
import Derived.MapViews
namespace Go.Proofs.YtcplbkbimpiioaaGreatDoor
open Go Go.RowKit Go.MapKept
set_option linter.unusedSectionVars false

/-- A key's type: how keys are as values. -/
structure KeyT (P : Program) (k : TypeId) {κ : Type} (G : κ → Prop) (kv : κ → Value) : Prop where
  keyed : Go.Maps.Keyed P k
  key : ∀ x, G x → ∃ l, keyOf P k (kv x) = some l
  inj : ∀ x y, G x → G y → kv x = kv y → x = y

theorem KeyT.int {P : Program} {k : TypeId} {q : IntKind} (hk : P.underlying k = some (.int q)) : KeyT P k (fun x : Int => (Lit.int q x).wf = true) (Value.int q) :=
  ⟨Go.Maps.int_keyed hk, fun _ hx => ⟨_, Go.Maps.keyOf_int_mk hk hx⟩, fun _ _ _ _ h => by injection h⟩

theorem KeyT.flat {P : Program} {k : TypeId} {ks : List Leaf} {m : Nat} (hl : laidOutB P = true) (hm : m + 1 ≤ 10000) (hrow : Nat.blt k P.types.size = true) (hk : P.keyTypeAt m k = true) (hkt : P.keyType k = true)
    (hwide : (match P.underlying k with | some (.array _ _) | some (.struct _) => true | _ => false) = true) (hf : flatT P (P.types.size + 1) k = some ks) (hc : Nat.beq ks.length (P.cellsOf k) = true)
    {κ : Type} {G : κ → Prop} {cel : κ → List Value} (hfit : ∀ x, G x → Fits1 ks (cel x)) (hinj : ∀ x y, G x → G y → cel x = cel y → x = y) : KeyT P k G (fun x => .agg (cel x).toArray) := by
  refine ⟨Go.Maps.Keyed.of_law (deep_law_laid hl hm (Nat.le_of_ble_eq_true hrow) hk hwide), fun x hx => ?_, fun x y hx hy h => hinj x y hx hy (by injection h with h; exact Array.toList_inj.2 h |> fun e => by simpa using e)⟩
  have hlen : (cel x).length = P.cellsOf k := (hfit x hx).len.trans (Nat.eq_of_beq_eq_true hc)
  have hformed : (Value.agg (cel x).toArray).formed P k = true := by
    unfold Value.formed
    split at hwide <;> simp_all
  have hlit := keyLits_flat (P := P) (P.types.size + 1) hf (hfit x hx)
  unfold keyOf
  split at hwide
  · rename_i h; rw [h]; simp only [hkt, hformed, Bool.and_self, if_true]; rw [show (Value.agg (cel x).toArray).cells.toList = cel x by simp [Value.cells], hlit]; exact ⟨_, rfl⟩
  · rename_i h; rw [h]; simp only [hkt, hformed, Bool.and_self, if_true]; rw [show (Value.agg (cel x).toArray).cells.toList = cel x by simp [Value.cells], hlit]; exact ⟨_, rfl⟩
  · cases hwide

/-! ### Lists of entries -/
section
variable {κ α : Type} [DecidableEq κ]
def mget (m : List (κ × α)) (k : κ) : Option α := (m.find? fun p => decide (p.1 = k)).map (·.2)
def mput (m : List (κ × α)) (k : κ) (v : α) : List (κ × α) := if (mget m k).isSome then m.map (fun p => if p.1 = k then (k, v) else p) else m ++ [(k, v)]
def mdel (m : List (κ × α)) (k : κ) : List (κ × α) := m.filter fun p => !decide (p.1 = k)
def mnd (m : List (κ × α)) : Prop := m.Pairwise fun p q => p.1 ≠ q.1
theorem mget_none {m : List (κ × α)} {k : κ} : mget m k = none ↔ ∀ p ∈ m, p.1 ≠ k := by
  unfold mget; simp
theorem mget_some {m : List (κ × α)} (hd : mnd m) {k : κ} {v : α} : mget m k = some v ↔ (k, v) ∈ m := by
  induction m with
  | nil => simp [mget]
  | cons p m ih =>
    obtain ⟨h1, h2⟩ := List.pairwise_cons.1 hd
    unfold mget
    rw [List.find?_cons]
    by_cases h : p.1 = k
    · simp only [h, decide_true, Option.map_some, List.mem_cons]
      constructor
      · intro e; left; rw [← Option.some.inj e, ← h]
      · rintro (e | e)
        · rw [← e]
        · exact absurd h (h1 _ e)
    · simp only [h, decide_false, List.mem_cons]
      have := ih h2
      unfold mget at this
      rw [this]
      constructor
      · exact .inr
      · rintro (e | e)
        · exact absurd (by rw [← e]) h
        · exact e
theorem mput_mem {m : List (κ × α)} {k : κ} {v : α} {p : κ × α} : p ∈ mput m k v ↔ p = (k, v) ∨ (p ∈ m ∧ p.1 ≠ k) := by
  unfold mput
  split
  · rename_i h
    rw [List.mem_map]
    constructor
    · rintro ⟨q, hq, rfl⟩
      split
      · left; rfl
      · rename_i hk; exact .inr ⟨hq, hk⟩
    · rintro (rfl | ⟨hp, hk⟩)
      · cases hg : mget m k with
        | none => rw [hg] at h; cases h
        | some u =>
          unfold mget at hg
          cases hf : m.find? (fun p => decide (p.1 = k)) with
          | none => rw [hf] at hg; cases hg
          | some q => exact ⟨q, List.mem_of_find?_eq_some hf, by rw [if_pos (by simpa using List.find?_some hf)]⟩
      · exact ⟨p, hp, if_neg hk⟩
  · rename_i h
    have hn : ∀ p ∈ m, p.1 ≠ k := mget_none.1 (by cases hg : mget m k with | none => rfl | some u => rw [hg] at h; simp at h)
    rw [List.mem_append, List.mem_singleton]
    constructor
    · rintro (hp | rfl)
      · exact .inr ⟨hp, hn p hp⟩
      · exact .inl rfl
    · rintro (rfl | ⟨hp, _⟩)
      · exact .inr rfl
      · exact .inl hp
theorem mput_nd {m : List (κ × α)} (hd : mnd m) (k : κ) (v : α) : mnd (mput m k v) := by
  unfold mput
  split
  · refine List.pairwise_map.2 (hd.imp fun {p q} h => ?_)
    split <;> split
    · rename_i h1 h2; exact absurd (h1.trans h2.symm) h
    · rename_i h1 h2; exact fun e => h2 e.symm
    · rename_i h1 h2; exact h1
    · exact h
  · rename_i h
    have hn : ∀ p ∈ m, p.1 ≠ k := mget_none.1 (by cases hg : mget m k with | none => rfl | some u => rw [hg] at h; simp at h)
    refine List.pairwise_append.2 ⟨hd, List.pairwise_singleton _ _, fun p hp q hq => ?_⟩
    rw [List.mem_singleton.1 hq]; exact hn p hp
theorem mget_put {m : List (κ × α)} (hd : mnd m) {k : κ} {v : α} {j : κ} : mget (mput m k v) j = if j = k then some v else mget m j := by
  apply Option.ext
  intro u
  rw [mget_some (mput_nd hd k v), mput_mem]
  split
  · rename_i h; subst h
    constructor
    · rintro (h | ⟨_, h⟩)
      · simp at h; rw [h]
      · exact absurd rfl h
    · intro h; left; rw [Option.some.inj h]
  · rename_i h
    rw [mget_some hd]
    constructor
    · rintro (e | ⟨e, _⟩)
      · simp at e; exact absurd e.1 h
      · exact e
    · intro e; exact .inr ⟨e, h⟩
theorem mdel_mem {m : List (κ × α)} {k : κ} {p : κ × α} : p ∈ mdel m k ↔ p ∈ m ∧ p.1 ≠ k := by simp [mdel]
theorem mdel_nd {m : List (κ × α)} (hd : mnd m) (k : κ) : mnd (mdel m k) := hd.filter _
theorem mget_del {m : List (κ × α)} (hd : mnd m) {k j : κ} : mget (mdel m k) j = if j = k then none else mget m j := by
  apply Option.ext
  intro u
  rw [mget_some (mdel_nd hd k), mdel_mem]
  split
  · rename_i h; subst h; simp
  · rename_i h
    rw [mget_some hd]
    exact ⟨fun e => e.1, fun e => ⟨e, h⟩⟩
end

/-! ### The resource -/
section
variable {κ α : Type}
def ents (kv : κ → Value) (vv : α → Value) (m : List (κ × α)) : List (Value × Value) := m.map fun p => (kv p.1, vv p.2)
/-- Block b is a map with these entries, one behind the other. -/
def mapR (kv : κ → Value) (vv : α → Value) (b : Nat) (m : List (κ × α)) : Res where
  fp := fun k => b = k
  wr := fun k => b = k
  sub := fun _ h => h
  ok := fun w => ∃ es clock, w.heap[b]? = some (.map es clock) ∧ es.toList.map (fun e => (e.key, e.val)) = ents kv vv m ∧ Stamped es clock
  lt := fun w ⟨_, _, h, _⟩ k hk => by cases hk; exact lt_of_heap h
  st := fun w w' D ⟨es, cl, h, h2⟩ hc hd => ⟨es, cl, hc.heap h (hd b rfl), h2⟩
/-- .. known as such, whatever becomes of the blocks in T. -/
def MapS (w : World) (T : Pm) (kv : κ → Value) (vv : α → Value) (b : Nat) (m : List (κ × α)) : Prop := ∀ w', Chg T.wr w w' → (mapR kv vv b m).ok w'
/-- .. read off a resource. -/
structure MapOf (r : Res) (kv : κ → Value) (vv : α → Value) (b : Nat) (m : List (κ × α)) : Prop where
  rd : ∀ w, r.ok w → (mapR kv vv b m).ok w
theorem MapOf.own {kv : κ → Value} {vv : α → Value} {b : Nat} {m : List (κ × α)} : MapOf (mapR kv vv b m) kv vv b m := ⟨fun _ h => h⟩
theorem MapOf.ro {kv : κ → Value} {vv : α → Value} {b : Nat} {m : List (κ × α)} : MapOf (roR (mapR kv vv b m)) kv vv b m := ⟨fun _ h => h⟩
def MReads (c : Cx) (H : List Res) (kv : κ → Value) (vv : α → Value) (b : Nat) (m : List (κ × α)) : Prop := ∀ w, OK c.w0 c.S H w → (mapR kv vv b m).ok w

section
variable {c : Cx} {Q : SQ} {env : Env} {ds : List Deferred} {H F A : List Res} {ops : Array Oper} {rest : List Oper} {dst : Option Tmp} {ty : TypeId} {pos : String} {af : Array Edge} {g : Option (Nat × Bool)}
variable {kv : κ → Value} {vv : α → Value} {b : Nat} {m : List (κ × α)}
theorem MReads.of {r : Res} (h : MapOf r kv vv b m) (t : Take1 H r F) : MReads c H kv vv b m := fun _ hw => h.rd _ (hw.get t)
theorem MReads.s (h : MapS c.w0 c.S kv vv b m) : MReads c H kv vv b m := fun w hw => h w hw.chg
/-- make(map[K]V), map[K]V{}. -/
theorem To.makeMap {t : TypeId} (kv : κ → Value) (vv : α → Value) : To c env ds H ⟨dst, .makeMap t none, ty, pos, af, g⟩ (fun b : Nat => .map (some b)) (fun b => mapR kv vv b [] :: H) := fun a w ha hw => by
  refine ⟨w.heap.size, w.alloc (.map #[] 0), by simp [execOp, Instr.makeMap], ?_⟩
  refine OK.upd (A := []) (B := [mapR kv vv w.heap.size []]) (F := H) hw ?_
  exact OK.one (Chg.alloc _ _ _) ⟨#[], 0, World.alloc_heap_new w _, rfl, stamped_empty 0⟩ (fun k hk hlt => by cases hk; omega) (fun k hk hlt => by cases hk; omega)

theorem ent_at {es : Array MapEntry} {m : List (κ × α)} (h : es.toList.map (fun e => (e.key, e.val)) = ents kv vv m) : ∀ e ∈ es.toList, ∃ p ∈ m, e.key = kv p.1 ∧ e.val = vv p.2 := by
  intro e he
  have : (e.key, e.val) ∈ ents kv vv m := by rw [← h]; exact List.mem_map.2 ⟨e, he, rfl⟩
  obtain ⟨p, hp, h2⟩ := List.mem_map.1 this
  exact ⟨p, hp, (Prod.mk.inj h2).1.symm, (Prod.mk.inj h2).2.symm⟩
theorem ent_nd {es : Array MapEntry} {clock : Nat} {m : List (κ × α)} (h : es.toList.map (fun e => (e.key, e.val)) = ents kv vv m) (hs : Stamped es clock) : mnd m := by
  have h3 := ((stamped_iff es clock).1 hs).2.2
  have : (es.toList.map (fun e => (e.key, e.val))).Pairwise (fun p q => p.1 ≠ q.1) := List.pairwise_map.2 h3
  rw [h] at this
  exact (List.pairwise_map.1 this).imp fun h e => h (by rw [e])
section
variable [DecidableEq κ] {k : TypeId} {G : κ → Prop}
theorem ent_find {P : Program} (K : KeyT P k G kv) {es : Array MapEntry} {m : List (κ × α)} (hG : ∀ p ∈ m, G p.1) (h : es.toList.map (fun e => (e.key, e.val)) = ents kv vv m) {x : κ} (hx : G x) (w : World) :
    ((Instr.findKey k (kv x) es.toList).run P w = .ok none w ∧ ∀ p ∈ m, p.1 ≠ x) ∨ ∃ j p, (Instr.findKey k (kv x) es.toList).run P w = .ok (some (j, vv p.2)) w ∧ m[j]? = some p ∧ p.1 = x := by
  obtain ⟨l, hl⟩ := K.key x hx
  rcases K.keyed.find w hl es.toList (fun e he => by
    obtain ⟨p, hp, h1, _⟩ := ent_at h e he
    rw [h1]; exact K.key _ (hG p hp)) with ⟨h1, h2⟩ | ⟨j, e, h1, h2, h3⟩
  · refine .inl ⟨h1, fun p hp e => ?_⟩
    have : (kv p.1, vv p.2) ∈ es.toList.map (fun e => (e.key, e.val)) := by rw [h]; exact List.mem_map.2 ⟨p, hp, rfl⟩
    obtain ⟨en, hen, he⟩ := List.mem_map.1 this
    exact h2 en hen (by rw [(Prod.mk.inj he).1, e])
  · have hj : (es.toList.map (fun e => (e.key, e.val)))[j]? = some (e.key, e.val) := by rw [List.getElem?_map, h2]; rfl
    rw [h] at hj
    unfold ents at hj
    rw [List.getElem?_map] at hj
    cases hp : m[j]? with
    | none => rw [hp] at hj; cases hj
    | some p =>
      rw [hp] at hj
      simp only [Option.map_some, Option.some.injEq, Prod.mk.injEq] at hj
      refine .inr ⟨j, p, by rw [h1, hj.2], hp, K.inj _ _ (hG p (List.mem_of_getElem? hp)) hx (by rw [hj.1, h3])⟩
theorem get_at {m : List (κ × α)} (hd : mnd m) {j : Nat} {p : κ × α} (hj : m[j]? = some p) : mget m p.1 = some p.2 := (mget_some hd).2 (List.mem_of_getElem? hj)

theorem Yl.lookup {t e : TypeId} {x y : Operand} {z : Value} (K : KeyT c.P k G kv) (ht : c.P.underlying t = some (.map k e)) (hz : ∀ w, (zeroValue e).run c.P w = .ok z w) (hG : ∀ p ∈ m, G p.1) (hx : ev env x = some (.map (some b))) {q : κ} (hy : ev env y = some (kv q)) (hq : G q)
    (hr : MReads c H kv vv b m) : Yl c env ds H ⟨dst, .lookup t x y false, ty, pos, af, g⟩ (((mget m q).map vv).getD z) := fun a w ha hw => by
  obtain ⟨es, clock, hb, he, hs⟩ := hr w hw
  have hd := ent_nd he hs
  obtain ⟨l, hl⟩ := K.key q hq
  rcases ent_find K hG he hq w with ⟨h1, h2⟩ | ⟨j, p, h1, h2, h3⟩
  · rw [mget_none.2 h2]
    simp [execOp, ha.ev hx, ha.ev hy, Instr.lookup, run_underlying ht, MapKept.run_getObj_map hb, K.keyed.check w _ hl, h1, hz, Result.andThen]
  · rw [← h3, get_at hd h2]
    simp [execOp, ha.ev hx, ha.ev hy, Instr.lookup, run_underlying ht, MapKept.run_getObj_map hb, K.keyed.check w _ hl, h1, Result.andThen]

theorem put_same {m : List (κ × α)} (hd : mnd m) {j : Nat} {p : κ × α} (hj : m[j]? = some p) (v : α) : mput m p.1 v = m.set j (p.1, v) := by
  unfold mput
  rw [get_at hd hj, if_pos (by rfl)]
  apply List.ext_getElem?
  intro i
  rw [List.getElem?_map, List.getElem?_set]
  obtain ⟨hjl, hje⟩ := List.getElem?_eq_some_iff.1 hj
  by_cases hij : j = i
  · subst hij
    rw [if_pos rfl, if_pos hjl, hj]
    simp
  · rw [if_neg hij]
    cases hi : m[i]? with
    | none => rfl
    | some q =>
      obtain ⟨hil, hie⟩ := List.getElem?_eq_some_iff.1 hi
      have : q.1 ≠ p.1 := by
        rw [← hie, ← hje]
        rcases Nat.lt_or_gt_of_ne hij with h | h
        · exact fun e => List.pairwise_iff_getElem.1 hd j i hjl hil h e.symm
        · exact List.pairwise_iff_getElem.1 hd i j hil hjl h
      simp [this]
theorem del_same {m : List (κ × α)} (hd : mnd m) {j : Nat} {p : κ × α} (hj : m[j]? = some p) : mdel m p.1 = m.eraseIdx j := by
  induction m generalizing j with
  | nil => simp at hj
  | cons q m ih =>
    obtain ⟨h1, h2⟩ := List.pairwise_cons.1 hd
    cases j with
    | zero =>
      simp at hj; subst hj
      simp only [mdel, List.filter_cons, decide_true, Bool.not_true, List.eraseIdx_zero, List.tail_cons]
      rw [if_neg (by decide), List.filter_eq_self]
      intro r hr
      have := h1 r hr
      simp only [Bool.not_eq_true', decide_eq_false_iff_not]
      exact fun e => this e.symm
    | succ j =>
      have hj' : m[j]? = some p := by simpa using hj
      have := h1 p (List.mem_of_getElem? hj')
      have ih' := ih h2 hj'
      simp only [mdel, List.filter_cons, List.eraseIdx_cons_succ] at ih' ⊢
      rw [if_pos (by simp [this]), ih']

/-- m[k] = v. -/
theorem Sto.mapPut {t e : TypeId} {x y z : Operand} (K : KeyT c.P k G kv) (ht : c.P.underlying t = some (.map k e)) (hG : ∀ p ∈ m, G p.1) (hx : ev env x = some (.map (some b))) {q : κ} {v : α} (hy : ev env y = some (kv q)) (hq : G q) (hv : ev env z = some (vv v))
    (tk : Take1 H (mapR kv vv b m) F) : Sto c env ds H ⟨dst, .mapUpdate t x y z, ty, pos, af, g⟩ (mapR kv vv b (mput m q v) :: F) := fun a w ha hw => by
  obtain ⟨es, clock, hb, he, hs⟩ := hw.get tk
  have hd := ent_nd he hs
  obtain ⟨l, hl⟩ := K.key q hq
  have hchg : ∀ o, Chg (mapR kv vv b m).wr w (ChangeMaps.setBlock w b o) := fun o => ⟨rfl, rfl, rfl, by simp [ChangeMaps.setBlock], fun i _ hi => ChangeMaps.heap_setBlock_other hb _ (fun e => hi (by rw [e]; exact rfl))⟩
  rcases ent_find K hG he hq w with ⟨h1, h2⟩ | ⟨j, p, h1, h2, h3⟩
  · have hn : ∀ x ∈ es.toList, x.key ≠ kv q := fun en hen e => by
      obtain ⟨p, hp, hk, _⟩ := ent_at he en hen
      exact h2 p hp (K.inj _ _ (hG p hp) hq (by rw [← hk, e]))
    refine ⟨ChangeMaps.setBlock w b (.map (es.push ⟨kv q, vv v, clock⟩) (clock + 1)), by simp [execOp, ha.ev hx, ha.ev hy, ha.ev hv, Instr.mapUpdate, run_underlying ht, MapKept.run_getObj_map hb, K.keyed.check w false hl, h1, MapKept.run_setObj_map _ hb, Result.andThen, ChangeMaps.setBlock], ?_⟩
    refine hw.turn tk (hchg _) ⟨_, _, ChangeMaps.heap_setBlock_same hb _, ?_, stamped_push hs hn⟩ (fun i hi => .inl hi)
    unfold mput
    rw [mget_none.2 h2]
    simp [he, ents]
  · subst h3
    have hj0 : (es.toList.map (fun e => (e.key, e.val)))[j]? = some (kv p.1, vv p.2) := by rw [he]; simp [ents, h2]
    rw [List.getElem?_map] at hj0
    cases hje : es.toList[j]? with
    | none => rw [hje] at hj0; cases hj0
    | some e0 =>
      rw [hje] at hj0
      simp only [Option.map_some, Option.some.injEq, Prod.mk.injEq] at hj0
      have hj : es[j]? = some e0 := by simpa using hje
      refine ⟨ChangeMaps.setBlock w b (.map (es.modify j (fun e' => { e' with key := kv p.1, val := vv v })) clock), by simp [execOp, ha.ev hx, ha.ev hy, ha.ev hv, Instr.mapUpdate, run_underlying ht, MapKept.run_getObj_map hb, K.keyed.check w false hl, h1, hj, hj0.1, K.keyed.stays w hl, MapKept.run_setObj_map _ hb, Result.andThen, ChangeMaps.setBlock], ?_⟩
      refine hw.turn tk (hchg _) ⟨_, _, ChangeMaps.heap_setBlock_same hb _, ?_, stamped_modify hs _ _ (fun _ _ => rfl) (fun e' _ he' => by rw [hj] at he'; cases he'; exact hj0.1.symm)⟩ (fun i hi => .inl hi)
      rw [put_same hd h2, Array.toList_modify, ChangeMaps.modify_eq_set _ _ _ _ hje, List.map_set, he]
      simp [ents, List.map_set]

/-- delete(m, k). -/
theorem Eff.mapDel {t e : TypeId} {x y : Operand} (K : KeyT c.P k G kv) (ht : c.P.underlying t = some (.map k e)) (hG : ∀ p ∈ m, G p.1) (hx : ev env x = some (.map (some b))) {q : κ} (hy : ev env y = some (kv q)) (hq : G q)
    (tk : Take1 H (mapR kv vv b m) F) : Eff c env ds H ⟨dst, .call { callee := .builtin .delete, args := #[x, y], argTypes := #[t, k] }, ty, pos, af, g⟩ (mapR kv vv b (mdel m q) :: F) := fun a w ha hw => by
  obtain ⟨es, clock, hb, he, hs⟩ := hw.get tk
  have hd := ent_nd he hs
  obtain ⟨l, hl⟩ := K.key q hq
  have hchg : ∀ o, Chg (mapR kv vv b m).wr w (ChangeMaps.setBlock w b o) := fun o => ⟨rfl, rfl, rfl, by simp [ChangeMaps.setBlock], fun i _ hi => ChangeMaps.heap_setBlock_other hb _ (fun e => hi (by rw [e]; exact rfl))⟩
  rcases ent_find K hG he hq w with ⟨h1, h2⟩ | ⟨j, p, h1, h2, h3⟩
  · refine ⟨.tuple #[], ChangeMaps.setBlock w b (.map es clock), by simp [execOp, resolve, invoke, builtin, ha.ev hx, ha.ev hy, Builtin.delete_, run_underlying ht, MapKept.run_getObj_map hb, K.keyed.check w _ hl, h1, MapKept.run_setObj_map _ hb, Result.andThen, ChangeMaps.setBlock], ?_⟩
    refine hw.turn tk (hchg _) ⟨_, _, ChangeMaps.heap_setBlock_same hb _, ?_, hs⟩ (fun i hi => .inl hi)
    rw [he]
    congr 1
    exact (List.filter_eq_self.2 fun p hp => by simp [h2 p hp]).symm
  · subst h3
    have hjl := (List.getElem?_eq_some_iff.1 h2).1
    have hls : es.size = m.length := by have := congrArg List.length he; simpa [ents] using this
    have hsub : (es.eraseIdxIfInBounds j).toList = es.toList.eraseIdx j := by
      unfold Array.eraseIdxIfInBounds
      rw [dif_pos (by omega)]
      simp
    refine ⟨.tuple #[], ChangeMaps.setBlock w b (.map (es.eraseIdxIfInBounds j) clock), by simp [execOp, resolve, invoke, builtin, ha.ev hx, ha.ev hy, Builtin.delete_, run_underlying ht, MapKept.run_getObj_map hb, K.keyed.check w _ hl, h1, MapKept.run_setObj_map _ hb, Result.andThen, ChangeMaps.setBlock], ?_⟩
    refine hw.turn tk (hchg _) ⟨_, _, ChangeMaps.heap_setBlock_same hb _, ?_, stamped_erase hs j⟩ (fun i hi => .inl hi)
    rw [hsub, ChangeMaps.map_eraseIdx, he, del_same hd h2]
    unfold ents
    rw [← ChangeMaps.map_eraseIdx]
end

end
end
end Go.Proofs.YtcplbkbimpiioaaGreatDoor
