/- Maps, over abstract states: a map as a list of its entries: general lemmas of this claim's own, about no program in particular. -/
import Derived.Test.YtnlibngncicobaaLibQ
import Derived.Maps.Keyed
import Derived.DeepKeys4
import Derived.Carry
import Derived.MapViews
namespace Go.Proofs.Ytnlibngncicobaa
open Go Go.RowKit Go.MapKept
set_option linter.unusedSectionVars false

/-- A key's type: how keys are as values. -/
structure KeyT (P : Program) (k : TypeId) {κ : Type} (G : κ → Prop) (kv : κ → Value) : Prop where
  keyed : Go.Maps.Keyed P k
  key : ∀ x, G x → ∃ l, keyOf P k (kv x) = some l
  inj : ∀ x y, G x → G y → kv x = kv y → x = y

theorem KeyT.int {P : Program} {k : TypeId} {q : IntKind} (hk : P.underlying k = some (.int q)) : KeyT P k (fun x : Int => (Lit.int q x).wf = true) (Value.int q) :=
  ⟨Go.Maps.int_keyed hk, fun _ hx => ⟨_, Go.Maps.keyOf_int_mk hk hx⟩, fun _ _ _ _ h => by injection h⟩

theorem KeyT.flat {P : Program} {k : TypeId} {ks : List Leaf} {m : Nat} (hl : laidOutB P = true) (hm : m + 1 ≤ 10000) (hrow : Nat.blt k P.types.size = true) (hk : P.keyTypeAt m k = true) (hkt : P.keyType k = true)
    (hwide : (match P.underlying k with | some (.array _ _) | some (.struct _) => true | _ => false) = true) (hf : flatT P (P.types.size + 1) k = some ks) (hc : Nat.beq ks.length (P.cellsOf k) = true)
    {κ : Type} {G : κ → Prop} {cel : κ → List Value} (hfit : ∀ x, G x → Fits1 ks (cel x)) (hinj : ∀ x y, G x → G y → cel x = cel y → x = y) : KeyT P k G (fun x => .agg (cel x).toArray) := by
  refine ⟨Go.Maps.Keyed.of_law (deep_law_laid hl hm (Nat.le_of_ble_eq_true hrow) hk hwide), fun x hx => ?_, fun x y hx hy h => hinj x y hx hy (by injection h with h; exact Array.toList_inj.2 h |> fun e => by simpa using e)⟩
  have hlen : (cel x).length = P.cellsOf k := (hfit x hx).len.trans (Nat.eq_of_beq_eq_true hc)
  have hformed : (Value.agg (cel x).toArray).formed P k = true := by
    unfold Value.formed
    split at hwide <;> simp_all
  have hlit := keyLits_flat (P := P) (P.types.size + 1) hf (hfit x hx)
  unfold keyOf
  split at hwide
  · rename_i h; rw [h]; simp only [hkt, hformed, Bool.and_self, if_true]; rw [show (Value.agg (cel x).toArray).cells.toList = cel x by simp [Value.cells], hlit]; exact ⟨_, rfl⟩
  · rename_i h; rw [h]; simp only [hkt, hformed, Bool.and_self, if_true]; rw [show (Value.agg (cel x).toArray).cells.toList = cel x by simp [Value.cells], hlit]; exact ⟨_, rfl⟩
  · cases hwide

/-! ### Lists of entries -/
section
variable {κ α : Type} [DecidableEq κ]
end

/-! ### The resource -/
section
variable {κ α : Type}
def ents (kv : κ → Value) (vv : α → Value) (m : List (κ × α)) : List (Value × Value) := m.map fun p => (kv p.1, vv p.2)
/-- Block b is a map with these entries, one behind the other. -/
def mapR (kv : κ → Value) (vv : α → Value) (b : Nat) (m : List (κ × α)) : Res where
  fp := fun k => b = k
  wr := fun k => b = k
  sub := fun _ h => h
  ok := fun w => ∃ es clock, w.heap[b]? = some (.map es clock) ∧ es.toList.map (fun e => (e.key, e.val)) = ents kv vv m ∧ Stamped es clock
  lt := fun w ⟨_, _, h, _⟩ k hk => by cases hk; exact lt_of_heap h
  st := fun w w' D ⟨es, cl, h, h2⟩ hc hd => ⟨es, cl, hc.heap h (hd b rfl), h2⟩
/-- .. known as such, whatever becomes of the blocks in T. -/
def MapS (w : World) (T : Pm) (kv : κ → Value) (vv : α → Value) (b : Nat) (m : List (κ × α)) : Prop := ∀ w', Chg T.wr w w' → (mapR kv vv b m).ok w'
/-- .. read off a resource. -/
structure MapOf (r : Res) (kv : κ → Value) (vv : α → Value) (b : Nat) (m : List (κ × α)) : Prop where
  rd : ∀ w, r.ok w → (mapR kv vv b m).ok w
theorem MapOf.own {kv : κ → Value} {vv : α → Value} {b : Nat} {m : List (κ × α)} : MapOf (mapR kv vv b m) kv vv b m := ⟨fun _ h => h⟩
theorem MapOf.ro {kv : κ → Value} {vv : α → Value} {b : Nat} {m : List (κ × α)} : MapOf (roR (mapR kv vv b m)) kv vv b m := ⟨fun _ h => h⟩
def MReads (c : Cx) (H : List Res) (kv : κ → Value) (vv : α → Value) (b : Nat) (m : List (κ × α)) : Prop := ∀ w, OK c.w0 c.S H w → (mapR kv vv b m).ok w

section
variable {c : Cx} {Q : SQ} {env : Env} {ds : List Deferred} {H F A : List Res} {ops : Array Oper} {rest : List Oper} {dst : Option Tmp} {ty : TypeId} {pos : String} {af : Array Edge} {g : Option (Nat × Bool)}
variable {kv : κ → Value} {vv : α → Value} {b : Nat} {m : List (κ × α)}
theorem MReads.of {r : Res} (h : MapOf r kv vv b m) (t : Take1 H r F) : MReads c H kv vv b m := fun _ hw => h.rd _ (hw.get t)
theorem MReads.s (h : MapS c.w0 c.S kv vv b m) : MReads c H kv vv b m := fun w hw => h w hw.chg
section
variable [DecidableEq κ] {k : TypeId} {G : κ → Prop}
end

end
end
end Go.Proofs.Ytnlibngncicobaa
