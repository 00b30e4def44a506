/- Contacts and books, in plain Lean. -/
import Derived.Test.YtcplbkbimpiioaaGreatDoorTruD
import Derived.Test.YtcplbkbimpiioaaGreatDoorLibAl
import Derived.Test.YtcplbkbimpiioaaGreatDoorLibK
namespace Go.Proofs.YtcplbkbimpiioaaGreatDoor
open Go Go.RowKit
/-- A contact: of each device its key, whether that is known; how it stands. -/
structure Ct where
  ks : List Ky
  has : List Bool
  st : Int
structure Ct.ok (c : Ct) : Prop where
  kl : c.ks.length = 4
  hl : c.has.length = 4
def Ct.cells (c : Ct) : List Value := (vcs kyV c.ks ++ c.has.map Value.bool) ++ [.int .u8 c.st]
theorem kys_len (c : Ct) (h : c.ok) : (vcs kyV c.ks).length = 128 := by rw [vtK.size (fun _ _ => trivial), h.kl]
theorem Ct.len {c : Ct} (h : c.ok) : c.cells.length = 133 := by
  unfold Ct.cells
  rw [List.length_append, List.length_append, kys_len c h, List.length_map, h.hl]; rfl
theorem Ct.ones (c : Ct) : ∀ u ∈ c.cells, u.oneCell' = true := by
  intro u hu
  rcases List.mem_append.1 hu with hu | hu
  · rcases List.mem_append.1 hu with hu | hu
    · exact vtK.ones _ u hu
    · obtain ⟨b, _, rfl⟩ := List.mem_map.1 hu
      rfl
  · rw [List.mem_singleton] at hu; subst hu; rfl
theorem Ct.key {c : Ct} (h : c.ok) {i : Nat} {k : Ky} (hk : c.ks[i]? = some k) : (c.cells.drop (i * 32)).take 32 = k.cells := by
  have hi := (List.getElem?_eq_some_iff.1 hk).1
  have hl := kys_len c h
  have hkl := h.kl
  unfold Ct.cells
  rw [List.append_assoc, List.drop_append_of_le_length (by omega), List.take_append_of_le_length (by rw [List.length_drop]; omega)]
  rw [vtK.at (fun _ _ => trivial) hk, kyV_cells]
theorem Ct.hasAt {c : Ct} (h : c.ok) {i : Nat} {b : Bool} (hb : c.has[i]? = some b) : c.cells[128 + i]? = some (.bool b) := by
  have hi := (List.getElem?_eq_some_iff.1 hb).1
  have hl := kys_len c h
  unfold Ct.cells
  rw [List.getElem?_append_left (by rw [List.length_append, List.length_map, hl]; omega), List.getElem?_append_right (by omega), hl, Nat.add_sub_cancel_left, List.getElem?_map, hb]
  rfl
theorem Ct.stAt {c : Ct} (h : c.ok) : c.cells[132]? = some (.int .u8 c.st) := by
  have hl := kys_len c h
  have hh := h.hl
  unfold Ct.cells
  rw [List.getElem?_append_right (by rw [List.length_append, List.length_map, hl]; omega)]
  rw [List.length_append, List.length_map, hl, hh]
  rfl
theorem Ct.hasL {c : Ct} (h : c.ok) : (c.cells.drop 128).take 4 = c.has.map Value.bool := by
  have hl := kys_len c h
  have hh := h.hl
  unfold Ct.cells
  rw [List.append_assoc, List.drop_left' hl, List.take_left' (by rw [List.length_map, hh])]
theorem Ct.setKey {c : Ct} (h : c.ok) {i : Nat} (hi : i < 4) (k : Ky) : c.cells.take (i * 32) ++ k.cells ++ c.cells.drop (i * 32 + 32) = ({ c with ks := c.ks.set i k } : Ct).cells := by
  have hl := kys_len c h
  have hkl := h.kl
  unfold Ct.cells
  dsimp only
  rw [vtK.set (fun _ _ => trivial) (j := i) (x := k) (by omega), kyV_cells]
  rw [List.append_assoc (vcs kyV c.ks), List.take_append_of_le_length (by omega), List.drop_append_of_le_length (by omega)]
  simp [List.append_assoc]
theorem Ct.setHas {c : Ct} (h : c.ok) {i : Nat} (hi : i < 4) (b : Bool) : c.cells.set (128 + i) (.bool b) = ({ c with has := c.has.set i b } : Ct).cells := by
  have hl := kys_len c h
  have hh := h.hl
  unfold Ct.cells
  dsimp only
  rw [List.set_append_left _ _ (by rw [List.length_append, List.length_map, hl]; omega), List.set_append_right _ _ (by omega), hl, Nat.add_sub_cancel_left, List.map_set]
theorem Ct.setSt {c : Ct} (h : c.ok) (s : Int) : c.cells.set 132 (.int .u8 s) = ({ c with st := s } : Ct).cells := by
  have hl := kys_len c h
  have hh := h.hl
  unfold Ct.cells
  dsimp only
  rw [List.set_append_right _ _ (by rw [List.length_append, List.length_map, hl]; omega), List.length_append, List.length_map, hl, hh]
  rfl
def Ct.zero : Ct := ⟨List.replicate 4 Ky.zero, List.replicate 4 false, 0⟩
theorem Ct.zero_ok : Ct.zero.ok := ⟨rfl, rfl⟩
/-- The keys that are known, in the devices' order. -/
def kysOf : List Ky → List Bool → List Ky
  | k :: ks, b :: bs => if b then k :: kysOf ks bs else kysOf ks bs
  | _, _ => []
/-- those with their devices, from device i on -/
def devsOf : Nat → List Ky → List Bool → List (Nat × Ky)
  | i, k :: ks, b :: bs => if b then (i, k) :: devsOf (i + 1) ks bs else devsOf (i + 1) ks bs
  | _, _, _ => []
def Ct.kys (c : Ct) : List Ky := kysOf c.ks c.has
def Ct.devs (c : Ct) : List (Nat × Ky) := devsOf 0 c.ks c.has
theorem devs_kys : ∀ (i : Nat) (ks : List Ky) (bs : List Bool), (devsOf i ks bs).map (·.2) = kysOf ks bs
  | _, [], _ => by simp [devsOf, kysOf]
  | _, _ :: _, [] => by simp [devsOf, kysOf]
  | i, k :: ks, b :: bs => by
    unfold devsOf kysOf
    cases b <;> simp [devs_kys (i + 1) ks bs]
theorem Ct.devs_kys (c : Ct) : c.devs.map (·.2) = c.kys := Go.Proofs.YtcplbkbimpiioaaGreatDoor.devs_kys 0 _ _
theorem devs_len : ∀ (i : Nat) (ks : List Ky) (bs : List Bool), (devsOf i ks bs).length ≤ bs.length
  | _, [], _ => by simp [devsOf]
  | _, _ :: _, [] => by simp [devsOf]
  | i, k :: ks, b :: bs => by
    have := devs_len (i + 1) ks bs
    unfold devsOf
    cases b <;> simp <;> omega
/-- Accounts and their contacts. -/
abbrev Cs := List (Int × Ct)
/-- Why a device may not be: 2 (no such one), or 0. -/
def mayF (acc a d : Int) : Int := if a ≥ 8 ∨ d ≥ 4 ∨ a = acc then 2 else 0
/-- A contact that learns a key. -/
def learnT (c : Ct) (i : Nat) (k : Ky) : Ct :=
  let same := (c.has.getD i false) && decide (c.ks.getD i Ky.zero = k)
  { ks := c.ks.set i k, has := c.has.set i true, st := if c.st = 2 ∧ same = false then 3 else c.st }
def chgT (c : Ct) (i : Nat) (k : Ky) : Bool := (c.has.getD i false) && !(decide (c.ks.getD i Ky.zero = k))
def newCt : Ct := { Ct.zero with st := 1 }
/-- the contact of an account, or a new one -/
def ctOf (l : Cs) (a : Int) : Ct := (mget l a).getD newCt
def learnC (l : Cs) (a : Int) (i : Nat) (k : Ky) : Cs := mput l a (learnT (ctOf l a) i k)
def forgetT (c : Ct) (i : Nat) : Ct := { ks := c.ks.set i Ky.zero, has := c.has.set i false, st := if c.st = 2 then 3 else c.st }
def stOf (l : Cs) (a : Int) : Int := ((mget l a).map Ct.st).getD 0
def kysAt (l : Cs) (a : Int) : List Ky := ((mget l a).map Ct.kys).getD []
def devsAt (l : Cs) (a : Int) : List (Nat × Ky) := ((mget l a).map Ct.devs).getD []
theorem learnT_ok {c : Ct} (h : c.ok) (i : Nat) (k : Ky) : (learnT c i k).ok := ⟨by unfold learnT; dsimp only; rw [List.length_set, h.kl], by unfold learnT; dsimp only; rw [List.length_set, h.hl]⟩
theorem forgetT_ok {c : Ct} (h : c.ok) (i : Nat) : (forgetT c i).ok := ⟨by unfold forgetT; dsimp only; rw [List.length_set, h.kl], by unfold forgetT; dsimp only; rw [List.length_set, h.hl]⟩
end Go.Proofs.YtcplbkbimpiioaaGreatDoor

namespace Go.Proofs.YtcplbkbimpiioaaGreatDoor
open Go Go.RowKit
def ptV (b : Nat) : Value := .pointer (some ⟨b, 0, none⟩)
abbrev Es := List (Int × Nat × Ct)
def pm (es : Es) : List (Int × Nat) := es.map fun e => (e.1, e.2.1)
def pj (es : Es) : Cs := es.map fun e => (e.1, e.2.2)
abbrev ctR (e : Int × Nat × Ct) : Res := blkR e.2.1 70 e.2.2.cells
abbrev bkL (b : Nat) (ao : Option Addr) (cp mb : Nat) (acc : Int) (own : List Ky) (es : Es) : List Res := [blkR b 67 [.int .u8 acc, .slice ao own.length cp, .map (some mb)], rwK (.slice ao own.length cp) own.length own, mapR (Value.int .u8) ptV mb (pm es), allR (es.map ctR)]
structure EG (es : Es) : Prop where
  key : ∀ e ∈ es, (Lit.int .u8 e.1).wf = true
  ct : ∀ e ∈ es, e.2.2.ok
  nd : mnd (pj es)
theorem u8_wf {a : Int} (h : 0 ≤ a ∧ a < 256) : (Lit.int .u8 a).wf = true := by
  show (decide ((0 : Int) ≤ a) && decide (a ≤ 255)) = true
  rw [Bool.and_eq_true, decide_eq_true_iff, decide_eq_true_iff]; omega
theorem keyU8 : KeyT Tryz.prog 5 (fun x : Int => (Lit.int .u8 x).wf = true) (Value.int .u8) := KeyT.int (by kernel_rfl)
theorem zPC : ∀ w, (zeroValue 68).run Tryz.prog w = .ok (.pointer none) w := fun w => by kernel_rfl
theorem EG.pmk {es : Es} (h : EG es) : ∀ p ∈ pm es, (Lit.int .u8 p.1).wf = true := by
  intro p hp
  obtain ⟨e, he, rfl⟩ := List.mem_map.1 hp
  exact h.key e he
theorem mget_pm (es : Es) (a : Int) : mget (pm es) a = (es.find? fun e => decide (e.1 = a)).map (·.2.1) := by
  unfold mget pm
  rw [List.find?_map]
  cases h : es.find? ((fun p : Int × Nat => decide (p.1 = a)) ∘ fun e => (e.1, e.2.1)) <;> (have h2 : es.find? (fun e => decide (e.1 = a)) = _ := h; rw [h2]; rfl)
theorem mget_pj (es : Es) (a : Int) : mget (pj es) a = (es.find? fun e => decide (e.1 = a)).map (·.2.2) := by
  unfold mget pj
  rw [List.find?_map]
  cases h : es.find? ((fun p : Int × Ct => decide (p.1 = a)) ∘ fun e => (e.1, e.2.2)) <;> (have h2 : es.find? (fun e => decide (e.1 = a)) = _ := h; rw [h2]; rfl)
/-- An account is not in a book; or at one place. -/
theorem es_cases (es : Es) (a : Int) : (mget (pm es) a = none ∧ mget (pj es) a = none) ∨ ∃ (j b : Nat) (c : Ct), es[j]? = some (a, b, c) ∧ mget (pm es) a = some b ∧ mget (pj es) a = some c := by
  rw [mget_pm, mget_pj]
  cases h : es.find? fun e => decide (e.1 = a) with
  | none => exact .inl ⟨rfl, rfl⟩
  | some e =>
    have h1 := List.find?_some h
    have h2 := List.mem_of_find?_eq_some h
    obtain ⟨j, hj⟩ := List.mem_iff_getElem?.1 h2
    obtain ⟨e1, e2, e3⟩ := e
    have h3 : e1 = a := of_decide_eq_true h1
    subst h3
    exact .inr ⟨j, e2, e3, hj, rfl, rfl⟩
theorem new_any (acc : Int) (v : Value) (xs : List Ky) (ha : 0 ≤ acc ∧ acc < 8) (hl : 1 ≤ xs.length ∧ xs.length ≤ 4) (w : World) (hx : RdS w (fpL []) v 32 xs.length (vcs kyV xs)) (hw : OK w (fpL []) [] w) :
    Fn Tryz.prog 5 [.int .u8 acc, v] [] w (fun _ : Nat × (Option Addr × Nat) × Nat => True) (fun y => .tuple #[.pointer (some ⟨y.1, 0, none⟩), .int .i64 0]) (fun y => bkL y.1 y.2.1.1 y.2.1.2 y.2.2 acc (setK xs) []) := by
  obtain ⟨al, cl, rfl, hcl, hml⟩ := hx.rd.form
  refine enterF Tryz.func5 rfl Tryz.ntmps5 rfl hw ?_
  refine WC.seq ?_
  refine WC.region ?_
  refine WL.y (Yl.assign rfl) rfl ?_
  refine WL.y (Yl.assign rfl) rfl ?_
  refine WL.nil ?_
  refine WC.seq ?_
  refine WC.seq ?_
  refine WC.region ?_
  refine WL.y (Yl.move rfl) rfl ?_
  refine WL.y (Yl.geq rfl rfl) rfl ?_
  refine WL.y (Yl.move rfl) rfl ?_
  refine WL.know (t := 8) (b' := false) rfl (by simp; omega) ?_
  refine WL.on rfl rfl ?_
  refine WL.y (Yl.move rfl) rfl ?_
  refine WL.on rfl rfl ?_
  refine WL.y (Yl.len un22 rfl) rfl ?_
  refine WL.on rfl rfl ?_
  refine WL.y (Yl.lss rfl rfl) rfl ?_
  refine WL.y (Yl.pickF rfl rfl) rfl ?_
  refine WL.y (Yl.move rfl) rfl ?_
  refine WL.know (t := 13) (b' := false) rfl (by simp; omega) ?_
  refine WL.on rfl rfl ?_
  refine WL.y (Yl.move rfl) rfl ?_
  refine WL.on rfl rfl ?_
  refine WL.y (Yl.len un22 rfl) rfl ?_
  refine WL.on rfl rfl ?_
  refine WL.y (Yl.gtr rfl rfl) rfl ?_
  refine WL.y (Yl.pickF rfl rfl) rfl ?_
  refine WL.know (t := 17) (b' := false) rfl (by simp; omega) ?_
  refine WL.nil ?_
  refine WC.condF rfl (by first | rfl | (simp; done) | (simp; omega)) ?_
  refine WC.skip ?_
  refine WC.seq ?_
  refine WC.region ?_
  refine WL.y (Yl.move rfl) rfl ?_
  refine WL.y (Yl.move rfl) rfl ?_
  refine WL.callC (xs := [.tmp 19]) (cap := []) rfl rfl en24 (by repeat' constructor) (fun w hw => set_any (.slice al xs.length cl) xs (by omega) w (hw.srcS (A := []) hx) hw.left.here) rfl ?_
  rintro ⟨ao, cp⟩ -
  refine WL.to (To.makeMap (Value.int .u8) ptV) rfl ?_
  intro b21
  refine WL.y (Yl.build rfl (cs := [.int .u8 acc, .slice ao (setK xs).length cp, .map (some b21)]) (fun _ => by kernel_rfl)) rfl ?_
  refine WL.to (To.box rfl rfl) rfl ?_
  intro b23
  refine WL.y (Yl.assign rfl) rfl ?_
  refine WL.y (Yl.assign rfl) rfl ?_
  refine WL.nil ?_
  refine WC.ret ?_
  repeat (with_reducible (first | refine peelT ?_ | refine peelB ?_ | refine peelTX ?_ | refine peelBX ?_ | refine peelBN ?_ | refine peelBO rfl ?_))
  exact ret2 (.inr rfl) Tryz.results5 rfl rfl fun w' h => ⟨(b23, (ao, cp), b21), trivial, rfl, (OK.allNil (f := ctR) h).sub (by repeat' constructor)⟩
theorem new_bad (acc : Int) (v : Value) (n : Nat) (ha : acc ≥ 8) (al : Option Addr) (cl : Nat) (hv : v = .slice al n cl) (w : World) (hw : OK w (fpL []) [] w) :
    Fn Tryz.prog 5 [.int .u8 acc, v] [] w (fun _ : Unit => True) (fun _ => .tuple #[.pointer none, .int .i64 2]) (fun _ => []) := by
  subst hv
  refine enterF Tryz.func5 rfl Tryz.ntmps5 rfl hw ?_
  refine WC.seq ?_
  refine WC.region ?_
  refine WL.y (Yl.assign rfl) rfl ?_
  refine WL.y (Yl.assign rfl) rfl ?_
  refine WL.nil ?_
  refine WC.seq ?_
  refine WC.seq ?_
  refine WC.region ?_
  refine WL.y (Yl.move rfl) rfl ?_
  refine WL.y (Yl.geq rfl rfl) rfl ?_
  refine WL.y (Yl.move rfl) rfl ?_
  refine WL.know (t := 8) (b' := true) rfl (by simp; omega) ?_
  refine WL.off rfl rfl rfl rfl ?_
  refine WL.off rfl rfl rfl rfl ?_
  refine WL.off rfl rfl rfl rfl ?_
  refine WL.y (Yl.pickT rfl rfl) rfl ?_
  refine WL.y (Yl.move rfl) rfl ?_
  refine WL.know (t := 13) (b' := true) rfl (by first | rfl | (simp; done) | (simp; omega)) ?_
  refine WL.off rfl rfl rfl rfl ?_
  refine WL.off rfl rfl rfl rfl ?_
  refine WL.off rfl rfl rfl rfl ?_
  refine WL.y (Yl.pickT rfl rfl) rfl ?_
  refine WL.know (t := 17) (b' := true) rfl (by first | rfl | (simp; done) | (simp; omega)) ?_
  refine WL.nil ?_
  refine WC.condT rfl (by first | rfl | (simp; done) | (simp; omega)) ?_
  refine WC.seq ?_
  refine WC.region ?_
  refine WL.y (Yl.assign rfl) rfl ?_
  refine WL.y (Yl.assign rfl) rfl ?_
  refine WL.nil ?_
  refine WC.ret ?_
  repeat (with_reducible (first | refine peelT ?_ | refine peelB ?_ | refine peelTX ?_ | refine peelBX ?_ | refine peelBN ?_ | refine peelBO rfl ?_))
  exact ret2 (.inr rfl) Tryz.results5 rfl rfl fun w' h => ⟨(), trivial, rfl, h.sub (by repeat' constructor)⟩
set_option maxRecDepth 100000 in
theorem state_no (b : Nat) (ao : Option Addr) (cp mb : Nat) (acc : Int) (own : List Ky) (es : Es) (hE : EG es) (a : Int) (ha : 0 ≤ a ∧ a < 256) (h1 : mget (pm es) a = none) (w : World) (hw : OK w (fpL (bkL b ao cp mb acc own es)) (bkL b ao cp mb acc own es) w) :
    Fn Tryz.prog 22 [.pointer (some ⟨b, 0, none⟩), .int .u8 a] (bkL b ao cp mb acc own es) w (fun _ : Unit => True) (fun _ => .int .u8 0) (fun _ => bkL b ao cp mb acc own es) := by
  refine enterF Tryz.func22 rfl Tryz.ntmps22 rfl hw ?_
  refine WC.seq ?_
  refine WC.region ?_
  refine WL.y (Yl.assign rfl) rfl ?_
  refine WL.nil ?_
  refine WC.seq ?_
  refine WC.seq ?_
  refine WC.region ?_
  refine WL.y (Yl.move rfl) rfl ?_
  refine WL.y (Yl.nilEq un25 rfl rfl) rfl ?_
  refine WL.y (Yl.move rfl) rfl ?_
  refine WL.know (t := 7) (b' := false) rfl (by first | rfl | (simp; done) | (simp; omega)) ?_
  refine WL.on rfl rfl ?_
  refine WL.y (Yl.move rfl) rfl ?_
  refine WL.on rfl rfl ?_
  refine WL.y (Yl.nilCheck rfl) rfl ?_
  refine WL.on rfl rfl ?_
  refine WL.y (Yl.field fo67_2 rfl) rfl ?_
  refine WL.on rfl rfl ?_
  refine WL.y (Yl.load on65 rfl (by repeat constructor) (by rfl)) rfl ?_
  refine WL.on rfl rfl ?_
  refine WL.y (Yl.move rfl) rfl ?_
  refine WL.on rfl rfl ?_
  refine WL.y (Yl.lookup (kv := Value.int .u8) (vv := ptV) (m := pm es) (z := .pointer none) keyU8 un65 zPC hE.pmk rfl rfl (u8_wf ha) (MReads.of (m := pm es) MapOf.own (by repeat constructor))) rfl ?_
  rw [h1]
  dsimp only [Option.map_none, Option.getD_none]
  refine WL.on rfl rfl ?_
  refine WL.y (Yl.nilEq un68 rfl rfl) rfl ?_
  refine WL.y (Yl.pickF rfl rfl) rfl ?_
  refine WL.know (t := 15) (b' := true) rfl (by first | rfl | (simp; done) | (simp; omega)) ?_
  refine WL.nil ?_
  refine WC.condT rfl (by first | rfl | (simp; done) | (simp; omega)) ?_
  refine WC.seq ?_
  refine WC.region ?_
  refine WL.y (Yl.assign rfl) rfl ?_
  refine WL.nil ?_
  refine WC.ret ?_
  repeat (with_reducible (first | refine peelT ?_ | refine peelB ?_ | refine peelTX ?_ | refine peelBX ?_ | refine peelBN ?_ | refine peelBO rfl ?_))
  exact ret1 (.inr rfl) Tryz.results22 rfl fun w' h => ⟨(), trivial, rfl, h.sub (by repeat' constructor)⟩
set_option maxRecDepth 100000 in
theorem state_yes (b : Nat) (ao : Option Addr) (cp mb : Nat) (acc : Int) (own : List Ky) (es : Es) (hE : EG es) (a : Int) (ha : 0 ≤ a ∧ a < 256) (j nb : Nat) (c : Ct) (hj : es[j]? = some (a, nb, c)) (h1 : mget (pm es) a = some nb) (w : World) (hw : OK w (fpL (bkL b ao cp mb acc own es)) (bkL b ao cp mb acc own es) w) :
    Fn Tryz.prog 22 [.pointer (some ⟨b, 0, none⟩), .int .u8 a] (bkL b ao cp mb acc own es) w (fun _ : Unit => True) (fun _ => .int .u8 c.st) (fun _ => bkL b ao cp mb acc own es) := by
  have hok := hE.ct _ (List.mem_of_getElem? hj)
  refine enterF Tryz.func22 rfl Tryz.ntmps22 rfl hw ?_
  refine WC.seq ?_
  refine WC.region ?_
  refine WL.y (Yl.assign rfl) rfl ?_
  refine WL.nil ?_
  refine WC.seq ?_
  refine WC.seq ?_
  refine WC.region ?_
  refine WL.y (Yl.move rfl) rfl ?_
  refine WL.y (Yl.nilEq un25 rfl rfl) rfl ?_
  refine WL.y (Yl.move rfl) rfl ?_
  refine WL.know (t := 7) (b' := false) rfl (by first | rfl | (simp; done) | (simp; omega)) ?_
  refine WL.on rfl rfl ?_
  refine WL.y (Yl.move rfl) rfl ?_
  refine WL.on rfl rfl ?_
  refine WL.y (Yl.nilCheck rfl) rfl ?_
  refine WL.on rfl rfl ?_
  refine WL.y (Yl.field fo67_2 rfl) rfl ?_
  refine WL.on rfl rfl ?_
  refine WL.y (Yl.load on65 rfl (by repeat constructor) (by rfl)) rfl ?_
  refine WL.on rfl rfl ?_
  refine WL.y (Yl.move rfl) rfl ?_
  refine WL.on rfl rfl ?_
  refine WL.y (Yl.lookup (kv := Value.int .u8) (vv := ptV) (m := pm es) (z := .pointer none) keyU8 un65 zPC hE.pmk rfl rfl (u8_wf ha) (MReads.of (m := pm es) MapOf.own (by repeat constructor))) rfl ?_
  rw [h1]
  dsimp only [Option.map_some, Option.getD_some, ptV]
  refine WL.on rfl rfl ?_
  refine WL.y (Yl.nilEq un68 rfl rfl) rfl ?_
  refine WL.y (Yl.pickF rfl rfl) rfl ?_
  refine WL.know (t := 15) (b' := false) rfl (by first | rfl | (simp; done) | (simp; omega)) ?_
  refine WL.nil ?_
  refine WC.condF rfl (by first | rfl | (simp; done) | (simp; omega)) ?_
  refine WC.skip ?_
  refine WC.seq ?_
  refine WC.region ?_
  refine WL.y (Yl.move rfl) rfl ?_
  refine WL.y (Yl.nilCheck rfl) rfl ?_
  refine WL.y (Yl.field fo67_2 rfl) rfl ?_
  refine WL.y (Yl.load on65 rfl (by repeat constructor) (by rfl)) rfl ?_
  refine WL.y (Yl.move rfl) rfl ?_
  refine WL.y (Yl.lookup (kv := Value.int .u8) (vv := ptV) (m := pm es) (z := .pointer none) keyU8 un65 zPC hE.pmk rfl rfl (u8_wf ha) (MReads.of (m := pm es) MapOf.own (by repeat constructor))) rfl ?_
  rw [h1]
  dsimp only [Option.map_some, Option.getD_some, ptV]
  refine WL.view (fun w h => h.allOut (f := ctR) (by repeat constructor) hj) ?_
  refine WL.y (Yl.nilCheck rfl) rfl ?_
  refine WL.y (Yl.field fo70_2 rfl) rfl ?_
  refine WL.y (Yl.load (T := 70) (cs := c.cells) on5 rfl (by repeat constructor) (Ct.stAt hok)) rfl ?_
  refine WL.y (Yl.assign rfl) rfl ?_
  refine WL.nil ?_
  refine WC.ret ?_
  repeat (with_reducible (first | refine peelT ?_ | refine peelB ?_ | refine peelTX ?_ | refine peelBX ?_ | refine peelBN ?_ | refine peelBO rfl ?_))
  exact ret1 (.inr rfl) Tryz.results22 rfl fun w' h => ⟨(), trivial, rfl, (OK.allBack (f := ctR) h (by repeat' constructor) hj).sub (by repeat' constructor)⟩
theorem state_any (b : Nat) (ao : Option Addr) (cp mb : Nat) (acc : Int) (own : List Ky) (es : Es) (hE : EG es) (a : Int) (ha : 0 ≤ a ∧ a < 256) (w : World) (hw : OK w (fpL (bkL b ao cp mb acc own es)) (bkL b ao cp mb acc own es) w) :
    Fn Tryz.prog 22 [.pointer (some ⟨b, 0, none⟩), .int .u8 a] (bkL b ao cp mb acc own es) w (fun _ : Unit => True) (fun _ => .int .u8 (stOf (pj es) a)) (fun _ => bkL b ao cp mb acc own es) := by
  unfold stOf
  rcases es_cases es a with ⟨h1, h2⟩ | ⟨j, nb, c, hj, h1, h2⟩
  · rw [h2]
    exact state_no b ao cp mb acc own es hE a ha h1 w hw
  · rw [h2]
    exact state_yes b ao cp mb acc own es hE a ha j nb c hj h1 w hw
theorem state_nil (a : Int) (w : World) (hw : OK w (fpL []) [] w) : Fn Tryz.prog 22 [.pointer none, .int .u8 a] [] w (fun _ : Unit => True) (fun _ => .int .u8 0) (fun _ => []) := by
  refine enterF Tryz.func22 rfl Tryz.ntmps22 rfl hw ?_
  refine WC.seq ?_
  refine WC.region ?_
  refine WL.y (Yl.assign rfl) rfl ?_
  refine WL.nil ?_
  refine WC.seq ?_
  refine WC.seq ?_
  refine WC.region ?_
  refine WL.y (Yl.move rfl) rfl ?_
  refine WL.y (Yl.nilEq un25 rfl rfl) rfl ?_
  refine WL.y (Yl.move rfl) rfl ?_
  refine WL.know (t := 7) (b' := true) rfl (by first | rfl | (simp; done) | (simp; omega)) ?_
  refine WL.off rfl rfl rfl rfl ?_
  refine WL.off rfl rfl rfl rfl ?_
  refine WL.off rfl rfl rfl rfl ?_
  refine WL.off rfl rfl rfl rfl ?_
  refine WL.off rfl rfl rfl rfl ?_
  refine WL.off rfl rfl rfl rfl ?_
  refine WL.off rfl rfl rfl rfl ?_
  refine WL.y (Yl.pickT rfl rfl) rfl ?_
  refine WL.know (t := 15) (b' := true) rfl (by first | rfl | (simp; done) | (simp; omega)) ?_
  refine WL.nil ?_
  refine WC.condT rfl (by first | rfl | (simp; done) | (simp; omega)) ?_
  refine WC.seq ?_
  refine WC.region ?_
  refine WL.y (Yl.assign rfl) rfl ?_
  refine WL.nil ?_
  refine WC.ret ?_
  repeat (with_reducible (first | refine peelT ?_ | refine peelB ?_ | refine peelTX ?_ | refine peelBX ?_ | refine peelBN ?_ | refine peelBO rfl ?_))
  exact ret1 (.inr rfl) Tryz.results22 rfl fun w' h => ⟨(), trivial, rfl, h.sub (by repeat' constructor)⟩
theorem may_any (b : Nat) (v1 v2 : Value) (acc a d : Int) (w : World) (hw : OK w (fpL [blkR b 67 [.int .u8 acc, v1, v2]]) [blkR b 67 [.int .u8 acc, v1, v2]] w) :
    Fn Tryz.prog 25 [.pointer (some ⟨b, 0, none⟩), .agg #[.int .u8 a, .int .u8 d]] [blkR b 67 [.int .u8 acc, v1, v2]] w (fun _ : Unit => True) (fun _ => .int .i64 (mayF acc a d)) (fun _ => [blkR b 67 [.int .u8 acc, v1, v2]]) := by
  refine enterF Tryz.func25 rfl Tryz.ntmps25 rfl hw ?_
  refine WC.seq ?_
  refine WC.region ?_
  refine WL.to (To.box (cs := [.int .u8 a, .int .u8 d]) rfl rfl) rfl ?_
  intro b3
  refine WL.y (Yl.assign rfl) rfl ?_
  refine WL.nil ?_
  refine WC.seq ?_
  refine WC.block ?_
  refine WC.seq ?_
  refine WC.region ?_
  refine WL.y (Yl.move rfl) rfl ?_
  refine WL.y (Yl.nilEq un25 rfl rfl) rfl ?_
  refine WL.know (t := 7) (b' := false) rfl (by first | rfl | (simp; done) | (simp; omega)) ?_
  refine WL.y (Yl.assign rfl) rfl ?_
  refine WL.nil ?_
  refine WC.condF rfl (by first | rfl | (simp; done) | (simp; omega)) ?_
  refine WC.midX (α := Unit) (fun _ => [(8, .bool (decide (a ≥ 8 ∨ d ≥ 4 ∨ a = acc)))]) (fun _ => [blkR b 67 [.int .u8 acc, v1, v2]]) (fun _ => True) ?_ ?_
  · refine WC.drawRead mixed (by kernel_rfl) ?_
    refine WH.y (Yl.field fo40_0 rfl) rfl ?_
    refine WH.y (Yl.load on5 rfl (by repeat constructor) (by rfl)) rfl ?_
    refine WH.y (Yl.geq rfl rfl) rfl ?_
    refine WH.y (Yl.move rfl) rfl ?_
    refine WH.both (t := 12) rfl (fun g12 => ?_) (fun g12 => ?_)
    · refine WH.off rfl rfl rfl rfl ?_
      refine WH.off rfl rfl rfl rfl ?_
      refine WH.off rfl rfl rfl rfl ?_
      refine WH.y (Yl.pickT rfl rfl) rfl ?_
      refine WH.y (Yl.move rfl) rfl ?_
      refine WH.off rfl rfl rfl rfl ?_
      refine WH.off rfl rfl rfl rfl ?_
      refine WH.off rfl rfl rfl rfl ?_
      refine WH.off rfl rfl rfl rfl ?_
      refine WH.off rfl rfl rfl rfl ?_
      refine WH.off rfl rfl rfl rfl ?_
      refine WH.off rfl rfl rfl rfl ?_
      refine WH.y (Yl.pickT rfl rfl) rfl ?_
      refine WH.say (t := 25) (v' := .bool (decide (a ≥ 8 ∨ d ≥ 4 ∨ a = acc))) rfl (by first | (simp_all; done) | (simp_all; rw [decide_eq_false (show ¬ 8 ≤ a by omega), decide_eq_false (show ¬ 4 ≤ d by omega)]; rfl)) ?_
      refine WH.y (Yl.assign rfl) rfl ?_
      refine WH.nil ?_
      exact ⟨rfl, (), trivial, (by repeat' constructor), _, (by repeat' constructor)⟩
    · refine WH.on rfl rfl ?_
      refine WH.y (Yl.field fo40_1 rfl) rfl ?_
      refine WH.on rfl rfl ?_
      refine WH.y (Yl.load on5 rfl (by repeat constructor) (by rfl)) rfl ?_
      refine WH.on rfl rfl ?_
      refine WH.y (Yl.geq rfl rfl) rfl ?_
      refine WH.y (Yl.pickF rfl rfl) rfl ?_
      refine WH.y (Yl.move rfl) rfl ?_
      refine WH.both (t := 17) rfl (fun g17 => ?_) (fun g17 => ?_)
      · refine WH.off rfl rfl rfl rfl ?_
        refine WH.off rfl rfl rfl rfl ?_
        refine WH.off rfl rfl rfl rfl ?_
        refine WH.off rfl rfl rfl rfl ?_
        refine WH.off rfl rfl rfl rfl ?_
        refine WH.off rfl rfl rfl rfl ?_
        refine WH.off rfl rfl rfl rfl ?_
        refine WH.y (Yl.pickT rfl rfl) rfl ?_
        refine WH.say (t := 25) (v' := .bool (decide (a ≥ 8 ∨ d ≥ 4 ∨ a = acc))) rfl (by first | (simp_all; done) | (simp_all; rw [decide_eq_false (show ¬ 8 ≤ a by omega), decide_eq_false (show ¬ 4 ≤ d by omega)]; rfl)) ?_
        refine WH.y (Yl.assign rfl) rfl ?_
        refine WH.nil ?_
        exact ⟨rfl, (), trivial, (by repeat' constructor), _, (by repeat' constructor)⟩
      · refine WH.on rfl rfl ?_
        refine WH.y (Yl.field fo40_0 rfl) rfl ?_
        refine WH.on rfl rfl ?_
        refine WH.y (Yl.load on5 rfl (by repeat constructor) (by rfl)) rfl ?_
        refine WH.on rfl rfl ?_
        refine WH.y (Yl.move rfl) rfl ?_
        refine WH.on rfl rfl ?_
        refine WH.y (Yl.nilCheck rfl) rfl ?_
        refine WH.on rfl rfl ?_
        refine WH.y (Yl.field fo67_0 rfl) rfl ?_
        refine WH.on rfl rfl ?_
        refine WH.y (Yl.load on5 rfl (by repeat constructor) (by rfl)) rfl ?_
        refine WH.on rfl rfl ?_
        refine WH.y (Yl.eql rfl rfl) rfl ?_
        refine WH.y (Yl.pickF rfl rfl) rfl ?_
        refine WH.say (t := 25) (v' := .bool (decide (a ≥ 8 ∨ d ≥ 4 ∨ a = acc))) rfl (by first | (simp_all; done) | (simp_all; rw [decide_eq_false (show ¬ 8 ≤ a by omega), decide_eq_false (show ¬ 4 ≤ d by omega)]; rfl)) ?_
        refine WH.y (Yl.assign rfl) rfl ?_
        refine WH.nil ?_
        exact ⟨rfl, (), trivial, (by repeat' constructor), _, (by repeat' constructor)⟩
  · rintro ⟨⟩ -
    refine WC.condD rfl (fun g8 => ?_) (fun g8 => ?_)
    · refine WC.seq ?_
      refine WC.region ?_
      refine WL.y (Yl.assign rfl) rfl ?_
      refine WL.nil ?_
      refine WC.ret ?_
      repeat (with_reducible (first | refine peelT ?_ | refine peelB ?_ | refine peelTX ?_ | refine peelBX ?_ | refine peelBN ?_ | refine peelBO rfl ?_))
      exact ret1 (.inr rfl) Tryz.results25 rfl fun w' h => ⟨(), trivial, by unfold mayF; rw [if_pos g8], h.sub (by repeat' constructor)⟩
    · refine WC.skip ?_
      refine WC.seq ?_
      refine WC.region ?_
      refine WL.y (Yl.assign rfl) rfl ?_
      refine WL.nil ?_
      refine WC.ret ?_
      repeat (with_reducible (first | refine peelT ?_ | refine peelB ?_ | refine peelTX ?_ | refine peelBX ?_ | refine peelBN ?_ | refine peelBO rfl ?_))
      exact ret1 (.inr rfl) Tryz.results25 rfl fun w' h => ⟨(), trivial, by unfold mayF; rw [if_neg g8], h.sub (by repeat' constructor)⟩
theorem may_nil (x : Value) (a d : Int) (hx : x = .agg #[.int .u8 a, .int .u8 d]) (w : World) (hw : OK w (fpL []) [] w) :
    Fn Tryz.prog 25 [.pointer none, x] [] w (fun _ : Unit => True) (fun _ => .int .i64 1) (fun _ => []) := by
  subst hx
  refine enterF Tryz.func25 rfl Tryz.ntmps25 rfl hw ?_
  refine WC.seq ?_
  refine WC.region ?_
  refine WL.to (To.box (cs := [.int .u8 a, .int .u8 d]) rfl rfl) rfl ?_
  intro b3
  refine WL.y (Yl.assign rfl) rfl ?_
  refine WL.nil ?_
  refine WC.seq ?_
  refine WC.block ?_
  refine WC.seq ?_
  refine WC.region ?_
  refine WL.y (Yl.move rfl) rfl ?_
  refine WL.y (Yl.nilEq un25 rfl rfl) rfl ?_
  refine WL.know (t := 7) (b' := true) rfl (by first | rfl | (simp; done) | (simp; omega)) ?_
  refine WL.y (Yl.assign rfl) rfl ?_
  refine WL.nil ?_
  refine WC.condT rfl (by first | rfl | (simp; done) | (simp; omega)) ?_
  refine WC.seq ?_
  refine WC.region ?_
  refine WL.y (Yl.assign rfl) rfl ?_
  refine WL.nil ?_
  refine WC.ret ?_
  repeat (with_reducible (first | refine peelT ?_ | refine peelB ?_ | refine peelTX ?_ | refine peelBX ?_ | refine peelBN ?_ | refine peelBO rfl ?_))
  exact ret1 (.inr rfl) Tryz.results25 rfl fun w' h => ⟨(), trivial, rfl, h.sub (by repeat' constructor)⟩
end Go.Proofs.YtcplbkbimpiioaaGreatDoor

namespace Go.Proofs.YtcplbkbimpiioaaGreatDoor
open Go Go.RowKit
theorem Ct.key' {c : Ct} (h : c.ok) {i n : Nat} {k : Ky} (hk : c.ks[i]? = some k) (hn : n = i * 32) : (c.cells.drop n).take 32 = k.cells := hn ▸ Ct.key h hk
theorem Ct.hasAt' {c : Ct} (h : c.ok) {i n : Nat} {b : Bool} (hb : c.has[i]? = some b) (hn : n = 128 + i) : c.cells[n]? = some (.bool b) := hn ▸ Ct.hasAt h hb
theorem Ct.setKey' {c : Ct} (h : c.ok) {i n m : Nat} (hi : i < 4) (k : Ky) (hn : n = i * 32) (hm : m = n + 32) : c.cells.take n ++ k.cells ++ c.cells.drop m = ({ c with ks := c.ks.set i k } : Ct).cells := by
  subst hn hm
  exact Ct.setKey h hi k
theorem Ct.setHas' {c : Ct} (h : c.ok) {i n : Nat} (hi : i < 4) (b : Bool) (hn : n = 128 + i) : c.cells.set n (.bool b) = ({ c with has := c.has.set i b } : Ct).cells := hn ▸ Ct.setHas h hi b
theorem Ct.okHas {c : Ct} (h : c.ok) (i : Nat) (b : Bool) : ({ c with has := c.has.set i b } : Ct).ok := ⟨h.kl, by dsimp only; rw [List.length_set, h.hl]⟩
section
variable {c : Cx} {env : Env} {ds : List Deferred} {H F : List Res} {dst : Option Tmp} {ty : TypeId} {pos : String} {af : Array Edge} {g : Option (Nat × Bool)}
theorem Sto.oneP {t : TypeId} {x y : Operand} {b o : Nat} {T : TypeId} {cs cs' : List Value} {v : Value} (hi : (c.P.info? t).map (·.size) = some 1) (hx : ev env x = some (.pointer (some ⟨b, o, none⟩))) (hy : ev env y = some v) (tk : Take1 H (blkR b T cs) F)
    (h1 : v.oneCell' = true) (ho : o < cs.length) (he : cs.set o v = cs') : Sto c env ds H ⟨dst, .store t x y, ty, pos, af, g⟩ (blkR b T cs' :: F) := Sto.one hi hx hy tk h1 (Nat.ble_eq_true_of_le ho) he
theorem Sto.aggP {t : TypeId} {x y : Operand} {b o : Nat} {T : TypeId} {cs cs' : List Value} {ys : List Value} {n : Nat} (hi : (c.P.info? t).map (·.size) = some n) (hx : ev env x = some (.pointer (some ⟨b, o, none⟩))) (hy : ev env y = some (.agg ys.toArray)) (tk : Take1 H (blkR b T cs) F)
    (h1 : ∀ v ∈ ys, v.oneCell' = true) (hn : ys.length = n) (ho : o + n ≤ cs.length) (he : cs.take o ++ ys ++ cs.drop (o + n) = cs') : Sto c env ds H ⟨dst, .store t x y, ty, pos, af, g⟩ (blkR b T cs' :: F) := Sto.agg hi hx hy tk h1 hn (Nat.ble_eq_true_of_le ho) he
theorem Yl.loadNP {t : TypeId} {x : Operand} {b o n : Nat} {T : TypeId} {cs cs' : List Value} (ho : aggB c.P t n = true) (hx : ev env x = some (.pointer (some ⟨b, o, none⟩))) (tk : Take1 H (blkR b T cs) F) (hl : o + n ≤ cs.length) (he : (cs.drop o).take n = cs') : Yl c env ds H ⟨dst, .load t x, ty, pos, af, g⟩ (.agg cs'.toArray) := Yl.loadN ho hx tk (Nat.ble_eq_true_of_le hl) he
end
theorem learn_bad (b : Nat) (v1 v2 : Value) (acc a d : Int) (k : Ky) (hm : mayF acc a d = 2) (w : World) (hw : OK w (fpL [blkR b 67 [.int .u8 acc, v1, v2]]) [blkR b 67 [.int .u8 acc, v1, v2]] w) :
    Fn Tryz.prog 6 [.pointer (some ⟨b, 0, none⟩), .agg #[.int .u8 a, .int .u8 d], kyV k] [blkR b 67 [.int .u8 acc, v1, v2]] w (fun _ : Unit => True) (fun _ => .tuple #[.bool false, .int .i64 2]) (fun _ => [blkR b 67 [.int .u8 acc, v1, v2]]) := by
  unfold kyV
  refine enterF Tryz.func6 rfl Tryz.ntmps6 rfl hw ?_
  refine WC.seq ?_
  refine WC.region ?_
  refine WL.to (To.box (cs := [.int .u8 a, .int .u8 d]) rfl rfl) rfl ?_
  intro b4
  refine WL.to (To.box (cs := k.cells) rfl rfl) rfl ?_
  intro b5
  refine WL.y (Yl.assign rfl) rfl ?_
  refine WL.y (Yl.assign rfl) rfl ?_
  refine WL.nil ?_
  refine WC.seq ?_
  refine WC.seq ?_
  refine WC.region ?_
  refine WL.y (Yl.move rfl) rfl ?_
  refine WL.y (Yl.loadN ag40 rfl (by repeat constructor) (by rfl) (by rfl)) rfl ?_
  refine WL.callC (xs := [.tmp 12, .tmp 13]) (cap := []) rfl rfl en25 (by repeat' constructor) (fun w hw => may_any b v1 v2 acc a d w hw.left.here) rfl ?_
  rintro ⟨⟩ -
  rw [hm]
  refine WL.y (Yl.assign rfl) rfl ?_
  refine WL.nil ?_
  refine WC.seq ?_
  refine WC.region ?_
  refine WL.y (Yl.move rfl) rfl ?_
  refine WL.y (Yl.neq rfl rfl) rfl ?_
  refine WL.nil ?_
  refine WC.condT rfl (by first | rfl | (simp; done) | (simp; omega)) ?_
  refine WC.seq ?_
  refine WC.region ?_
  refine WL.y (Yl.move rfl) rfl ?_
  refine WL.y (Yl.assign rfl) rfl ?_
  refine WL.y (Yl.assign rfl) rfl ?_
  refine WL.nil ?_
  refine WC.ret ?_
  repeat (with_reducible (first | refine peelT ?_ | refine peelB ?_ | refine peelTX ?_ | refine peelBX ?_ | refine peelBN ?_ | refine peelBO rfl ?_))
  exact ret2 (.inr rfl) Tryz.results6 rfl rfl fun w' h => ⟨(), trivial, rfl, h.sub (by repeat' constructor)⟩
theorem learn_nil (x : Value) (a d : Int) (hx : x = .agg #[.int .u8 a, .int .u8 d]) (k : Ky) (w : World) (hw : OK w (fpL []) [] w) :
    Fn Tryz.prog 6 [.pointer none, x, kyV k] [] w (fun _ : Unit => True) (fun _ => .tuple #[.bool false, .int .i64 1]) (fun _ => []) := by
  subst hx
  unfold kyV
  refine enterF Tryz.func6 rfl Tryz.ntmps6 rfl hw ?_
  refine WC.seq ?_
  refine WC.region ?_
  refine WL.to (To.box (cs := [.int .u8 a, .int .u8 d]) rfl rfl) rfl ?_
  intro b4
  refine WL.to (To.box (cs := k.cells) rfl rfl) rfl ?_
  intro b5
  refine WL.y (Yl.assign rfl) rfl ?_
  refine WL.y (Yl.assign rfl) rfl ?_
  refine WL.nil ?_
  refine WC.seq ?_
  refine WC.seq ?_
  refine WC.region ?_
  refine WL.y (Yl.move rfl) rfl ?_
  refine WL.y (Yl.loadN ag40 rfl (by repeat constructor) (by rfl) (by rfl)) rfl ?_
  refine WL.callC (xs := [.tmp 12, .tmp 13]) (cap := []) rfl rfl en25 (by repeat' constructor) (fun w hw => may_nil (.agg #[.int .u8 a, .int .u8 d]) a d rfl w hw.left.here) rfl ?_
  rintro ⟨⟩ -
  refine WL.y (Yl.assign rfl) rfl ?_
  refine WL.nil ?_
  refine WC.seq ?_
  refine WC.region ?_
  refine WL.y (Yl.move rfl) rfl ?_
  refine WL.y (Yl.neq rfl rfl) rfl ?_
  refine WL.nil ?_
  refine WC.condT rfl (by first | rfl | (simp; done) | (simp; omega)) ?_
  refine WC.seq ?_
  refine WC.region ?_
  refine WL.y (Yl.move rfl) rfl ?_
  refine WL.y (Yl.assign rfl) rfl ?_
  refine WL.y (Yl.assign rfl) rfl ?_
  refine WL.nil ?_
  refine WC.ret ?_
  repeat (with_reducible (first | refine peelT ?_ | refine peelB ?_ | refine peelTX ?_ | refine peelBX ?_ | refine peelBN ?_ | refine peelBO rfl ?_))
  exact ret2 (.inr rfl) Tryz.results6 rfl rfl fun w' h => ⟨(), trivial, rfl, h.sub (by repeat' constructor)⟩
theorem pj_set (es : Es) (j : Nat) (e : Int × Nat × Ct) : pj (es.set j e) = (pj es).set j (e.1, e.2.2) := by unfold pj; rw [List.map_set]
theorem pm_set (es : Es) (j : Nat) (e : Int × Nat × Ct) : pm (es.set j e) = (pm es).set j (e.1, e.2.1) := by unfold pm; rw [List.map_set]
theorem pm_same {es : Es} {j : Nat} {a : Int} {nb : Nat} {c c' : Ct} (hj : es[j]? = some (a, nb, c)) : pm (es.set j (a, nb, c')) = pm es := by
  rw [pm_set]
  obtain ⟨hl, he⟩ := List.getElem?_eq_some_iff.1 hj
  have e2 : (pm es)[j]'(by unfold pm; rw [List.length_map]; exact hl) = (a, nb) := by unfold pm; rw [List.getElem_map, he]
  conv => lhs; rw [← e2]
  exact List.set_getElem_self _
theorem EG.set {es : Es} (h : EG es) {j : Nat} {a : Int} {nb : Nat} {c c' : Ct} (hj : es[j]? = some (a, nb, c)) (hc : c'.ok) : EG (es.set j (a, nb, c')) ∧ pj (es.set j (a, nb, c')) = mput (pj es) a c' := by
  have hp : (pj es)[j]? = some (a, c) := by unfold pj; rw [List.getElem?_map, hj]; rfl
  have he : pj (es.set j (a, nb, c')) = mput (pj es) a c' := by rw [pj_set, put_same h.nd hp]
  refine ⟨⟨fun e he => ?_, fun e he => ?_, by rw [he]; exact mput_nd h.nd _ _⟩, he⟩
  · rcases List.mem_or_eq_of_mem_set he with h1 | rfl
    · exact h.key e h1
    · exact h.key (a, nb, c) (List.mem_of_getElem? hj)
  · rcases List.mem_or_eq_of_mem_set he with h1 | rfl
    · exact h.ct e h1
    · exact hc
theorem EG.more {es : Es} (h : EG es) {a : Int} {nb : Nat} {c' : Ct} (ha : 0 ≤ a ∧ a < 256) (hn : mget (pj es) a = none) (hc : c'.ok) : EG (es ++ [(a, nb, c')]) ∧ pj (es ++ [(a, nb, c')]) = mput (pj es) a c' := by
  have he : pj (es ++ [(a, nb, c')]) = mput (pj es) a c' := by
    unfold mput
    rw [hn, if_neg (by decide)]
    unfold pj
    rw [List.map_append]; rfl
  refine ⟨⟨fun e he => ?_, fun e he => ?_, by rw [he]; exact mput_nd h.nd _ _⟩, he⟩
  · rcases List.mem_append.1 he with h1 | h1
    · exact h.key e h1
    · rw [List.mem_singleton] at h1; subst h1; exact u8_wf ha
  · rcases List.mem_append.1 he with h1 | h1
    · exact h.ct e h1
    · rw [List.mem_singleton] at h1; subst h1; exact hc
theorem pm_more {es : Es} {a : Int} {nb : Nat} {c' : Ct} (hn : mget (pm es) a = none) : mput (pm es) a nb = pm (es ++ [(a, nb, c')]) := by
  unfold mput
  rw [hn, if_neg (by decide)]
  unfold pm
  rw [List.map_append]; rfl
theorem and_T {p : Prop} [Decidable p] {b : Bool} (h : (decide p && !b) = true) : p ∧ b = false := by simpa using h
theorem and_F {p : Prop} [Decidable p] {b : Bool} (h : (decide p && !b) = false) : ¬ (p ∧ b = false) := by
  rintro ⟨h1, h2⟩
  rw [h2, decide_eq_true h1] at h
  cases h
theorem newCt_ok : newCt.ok := ⟨rfl, rfl⟩
set_option maxHeartbeats 1600000 in
set_option maxRecDepth 100000 in
theorem learn_new (b : Nat) (ao : Option Addr) (cp mb : Nat) (acc : Int) (own : List Ky) (es : Es) (hE : EG es) (a : Int) (ha : 0 ≤ a ∧ a < 256) (i : Nat) (hi : i < 4) (k : Ky) (hm : mayF acc a (i : Int) = 0) (h1 : mget (pm es) a = none) (h2 : mget (pj es) a = none) (w : World) (hw : OK w (fpL (bkL b ao cp mb acc own es)) (bkL b ao cp mb acc own es) w) :
    Fn Tryz.prog 6 [.pointer (some ⟨b, 0, none⟩), .agg #[.int .u8 a, .int .u8 (i : Int)], kyV k] (bkL b ao cp mb acc own es) w (fun es' : Es => pj es' = learnC (pj es) a i k ∧ EG es') (fun _ => .tuple #[.bool (chgT (ctOf (pj es) a) i k), .int .i64 0]) (fun es' => bkL b ao cp mb acc own es') := by
  have hok := newCt_ok
  have hco : ctOf (pj es) a = newCt := by unfold ctOf; rw [h2]; rfl
  obtain ⟨hd, hb⟩ : ∃ hd, newCt.has[i]? = some hd := ⟨_, List.getElem?_eq_getElem (by rw [hok.hl]; exact hi)⟩
  obtain ⟨k0, hk0⟩ : ∃ k0, newCt.ks[i]? = some k0 := ⟨_, List.getElem?_eq_getElem (by rw [hok.kl]; exact hi)⟩
  have hb2 : newCt.has.getD i false = hd := by rw [List.getD_eq_getElem?_getD, hb]; rfl
  have hk2 : newCt.ks.getD i Ky.zero = k0 := by rw [List.getD_eq_getElem?_getD, hk0]; rfl
  have hokM : (⟨newCt.ks.set i k, newCt.has.set i true, newCt.st⟩ : Ct).ok := ⟨by dsimp only; rw [List.length_set, hok.kl], by dsimp only; rw [List.length_set, hok.hl]⟩
  have hchg : chgT (ctOf (pj es) a) i k = (hd && !(hd && decide (k0 = k))) := by
    rw [hco]
    unfold chgT
    rw [hb2, hk2]
    cases hd <;> cases decide (k0 = k) <;> rfl
  have hnx : ∀ s, s = (if newCt.st = 2 ∧ (hd && decide (k0 = k)) = false then 3 else newCt.st) → (⟨newCt.ks.set i k, newCt.has.set i true, s⟩ : Ct) = learnT (ctOf (pj es) a) i k := by
    intro s hs
    rw [hco]
    unfold learnT
    dsimp only
    rw [hb2, hk2, hs]
  unfold kyV
  unfold learnC
  rw [hchg]
  refine enterF Tryz.func6 rfl Tryz.ntmps6 rfl hw ?_
  refine WC.seq ?_
  refine WC.region ?_
  refine WL.to (To.box (cs := [.int .u8 a, .int .u8 (i : Int)]) rfl rfl) rfl ?_
  intro b4
  refine WL.to (To.box (cs := k.cells) rfl rfl) rfl ?_
  intro b5
  refine WL.y (Yl.assign rfl) rfl ?_
  refine WL.y (Yl.assign rfl) rfl ?_
  refine WL.nil ?_
  refine WC.seq ?_
  refine WC.seq ?_
  refine WC.region ?_
  refine WL.y (Yl.move rfl) rfl ?_
  refine WL.y (Yl.loadN ag40 rfl (by repeat constructor) (by rfl) (by rfl)) rfl ?_
  refine WL.callC (xs := [.tmp 12, .tmp 13]) (cap := []) rfl rfl en25 (by repeat' constructor) (fun w hw => may_any b (.slice ao own.length cp) (.map (some mb)) acc a (i : Int) w hw.left.here) rfl ?_
  rintro ⟨⟩ -
  rw [hm]
  dsimp only [List.cons_append, List.nil_append]
  refine WL.y (Yl.assign rfl) rfl ?_
  refine WL.nil ?_
  refine WC.seq ?_
  refine WC.region ?_
  refine WL.y (Yl.move rfl) rfl ?_
  refine WL.y (Yl.neq rfl rfl) rfl ?_
  refine WL.nil ?_
  refine WC.condF rfl (by first | rfl | (simp; done) | (simp; omega)) ?_
  refine WC.skip ?_
  refine WC.seq ?_
  refine WC.drawRead mixed (by kernel_rfl) ?_
  refine WH.y (Yl.move rfl) rfl ?_
  refine WH.y (Yl.nilCheck rfl) rfl ?_
  refine WH.y (Yl.field fo67_2 rfl) rfl ?_
  refine WH.y (Yl.load on65 rfl (by repeat constructor) (by rfl)) rfl ?_
  refine WH.y (Yl.field fo40_0 rfl) rfl ?_
  refine WH.y (Yl.load on5 rfl (by repeat constructor) (by rfl)) rfl ?_
  refine WH.y (Yl.lookup (kv := Value.int .u8) (vv := ptV) (m := pm es) (z := .pointer none) keyU8 un65 zPC hE.pmk rfl rfl (u8_wf ha) (MReads.of (m := pm es) MapOf.own (by repeat constructor))) rfl ?_
  rw [h1]
  dsimp only [Option.map_none, Option.getD_none]
  refine WH.y (Yl.assign rfl) rfl ?_
  refine WH.nil ?_
  refine WC.seq ?_
  refine WC.seq ?_
  refine WC.region ?_
  refine WL.y (Yl.move rfl) rfl ?_
  refine WL.y (Yl.nilEq un68 rfl rfl) rfl ?_
  refine WL.know (t := 26) (b' := true) rfl (by first | rfl | (simp; done) | (simp; omega)) ?_
  refine WL.nil ?_
  refine WC.condT rfl (by first | rfl | (simp; done) | (simp; omega)) ?_
  refine WC.seq ?_
  refine WC.region ?_
  refine WL.y (Yl.build rfl (cs := newCt.cells) (fun _ => by kernel_rfl)) rfl ?_
  refine WL.to (To.box (cs := newCt.cells) rfl rfl) rfl ?_
  intro b28
  refine WL.y (Yl.assign rfl) rfl ?_
  refine WL.nil ?_
  refine WC.drawAny (Hs := [blkR b 67 [.int .u8 acc, .slice ao own.length cp, .map (some mb)], blkR b4 40 [.int .u8 a, .int .u8 (i : Int)]]) mixed (by kernel_rfl) ⟨_, (by repeat' constructor)⟩ ?_
  refine WD.tk 0 rfl (by kernel_rfl) rfl rfl (Yl.move rfl) rfl ?_
  refine WD.tk 1 rfl (by kernel_rfl) rfl rfl (Yl.nilCheck rfl) rfl ?_
  refine WD.tk 2 rfl (by kernel_rfl) rfl rfl (Yl.field fo67_2 rfl) rfl ?_
  refine WD.tk 3 rfl (by kernel_rfl) rfl rfl (Yl.load on65 rfl (by repeat constructor) (by rfl)) rfl ?_
  refine WD.tk 4 rfl (by kernel_rfl) rfl rfl (Yl.field fo40_0 rfl) rfl ?_
  refine WD.tk 5 rfl (by kernel_rfl) rfl rfl (Yl.load on5 rfl (by repeat constructor) (by rfl)) rfl ?_
  refine WD.tk 6 rfl (by kernel_rfl) rfl rfl (Yl.move rfl) rfl ?_
  refine WD.one 7 (by kernel_rfl) ?_
  refine WO.sto rfl rfl .no (Sto.mapPut (kv := Value.int .u8) (vv := ptV) (m := pm es) (q := a) (v := b28) keyU8 un65 hE.pmk rfl rfl (u8_wf ha) rfl (by repeat constructor)) ⟨_, (by repeat' constructor)⟩ ?_
  refine WD.done (by kernel_rfl) ?_
  refine WC.seq ?_
  refine WC.drawRead mixed (by kernel_rfl) ?_
  refine WH.y (Yl.move rfl) rfl ?_
  refine WH.y (Yl.field fo40_1 rfl) rfl ?_
  refine WH.y (Yl.load on5 rfl (by repeat constructor) (by rfl)) rfl ?_
  refine WH.y (Yl.nilCheck rfl) rfl ?_
  refine WH.y (Yl.field fo70_1 rfl) rfl ?_
  refine WH.y (Yl.indexA un30 sz4 rfl rfl rfl (by omega)) rfl ?_
  refine WH.y (Yl.load (T := 70) (cs := newCt.cells) on4 rfl (by repeat constructor) (Ct.hasAt' hok hb (by omega))) rfl ?_
  refine WH.y (Yl.assign rfl) rfl ?_
  refine WH.nil ?_
  refine WC.midX (α := Unit) (fun _ => [(0, .pointer (some ⟨b, 0, none⟩)), (4, .pointer (some ⟨b4, 0, none⟩)), (5, .pointer (some ⟨b5, 0, none⟩)), (9, .pointer (some ⟨b28, 0, none⟩)), (10, .bool hd), (11, .bool (hd && decide (k0 = k)))]) (fun _ => [blkR b4 40 [.int .u8 a, .int .u8 (i : Int)], blkR b5 32 k.cells, blkR b28 70 newCt.cells, blkR b 67 [.int .u8 acc, .slice ao own.length cp, .map (some mb)], rwK (.slice ao own.length cp) own.length own, mapR (Value.int .u8) ptV mb (mput (pm es) a b28), allR (es.map ctR)]) (fun _ => True) ?_ ?_
  · refine WC.drawRead mixed (by kernel_rfl) ?_
    refine WH.y (Yl.move rfl) rfl ?_
    refine WH.y (Yl.move rfl) rfl ?_
    refine WH.both (t := 44) rfl (fun g44 => ?_) (fun g44 => ?_)
    · refine WH.on rfl rfl ?_
      refine WH.y (Yl.move rfl) rfl ?_
      refine WH.on rfl rfl ?_
      refine WH.y (Yl.field fo40_1 rfl) rfl ?_
      refine WH.on rfl rfl ?_
      refine WH.y (Yl.load on5 rfl (by repeat constructor) (by rfl)) rfl ?_
      refine WH.on rfl rfl ?_
      refine WH.y (Yl.nilCheck rfl) rfl ?_
      refine WH.on rfl rfl ?_
      refine WH.y (Yl.field fo70_0 rfl) rfl ?_
      refine WH.on rfl rfl ?_
      refine WH.y (Yl.indexA un33 sz32 rfl rfl rfl (by omega)) rfl ?_
      refine WH.on rfl rfl ?_
      refine WH.y (Yl.loadNP (T := 70) (cs := newCt.cells) ag32 rfl (by repeat constructor) (by rw [Ct.len hok]; omega) (Ct.key' hok hk0 (by omega))) rfl ?_
      refine WH.on rfl rfl ?_
      refine WH.y (Yl.loadNP (T := 32) (cs := k.cells) ag32 rfl (by repeat constructor) (by rw [k.clen]; omega) (by rw [List.drop_zero, List.take_of_length_le (by rw [k.clen]; omega)])) rfl ?_
      refine WH.on rfl rfl ?_
      refine WH.y (Yl.eqK (p := k0) (q := k) rfl rfl rfl) rfl ?_
      refine WH.y (Yl.pickT rfl rfl) rfl ?_
      refine WH.say (t := 54) (v' := .bool (hd && decide (k0 = k))) rfl (by simp_all) ?_
      refine WH.y (Yl.assign rfl) rfl ?_
      refine WH.nil ?_
      exact ⟨rfl, (), trivial, (by repeat' constructor), _, (by repeat' constructor)⟩
    · refine WH.off rfl rfl rfl rfl ?_
      refine WH.off rfl rfl rfl rfl ?_
      refine WH.off rfl rfl rfl rfl ?_
      refine WH.off rfl rfl rfl rfl ?_
      refine WH.off rfl rfl rfl rfl ?_
      refine WH.off rfl rfl rfl rfl ?_
      refine WH.off rfl rfl rfl rfl ?_
      refine WH.off rfl rfl rfl rfl ?_
      refine WH.off rfl rfl rfl rfl ?_
      refine WH.y (Yl.pickF rfl rfl) rfl ?_
      refine WH.say (t := 54) (v' := .bool (hd && decide (k0 = k))) rfl (by simp_all) ?_
      refine WH.y (Yl.assign rfl) rfl ?_
      refine WH.nil ?_
      exact ⟨rfl, (), trivial, (by repeat' constructor), _, (by repeat' constructor)⟩
  · rintro ⟨⟩ -
    refine WC.seq ?_
    refine WC.drawAny (Hs := [blkR b4 40 [.int .u8 a, .int .u8 (i : Int)], blkR b5 32 k.cells]) mixed (by kernel_rfl) ⟨_, (by repeat' constructor)⟩ ?_
    refine WD.tk 0 rfl (by kernel_rfl) rfl rfl (Yl.move rfl) rfl ?_
    refine WD.tk 1 rfl (by kernel_rfl) rfl rfl (Yl.field fo40_1 rfl) rfl ?_
    refine WD.tk 2 rfl (by kernel_rfl) rfl rfl (Yl.load on5 rfl (by repeat constructor) (by rfl)) rfl ?_
    refine WD.tk 3 rfl (by kernel_rfl) rfl rfl (Yl.move rfl) rfl ?_
    refine WD.tk 4 rfl (by kernel_rfl) rfl rfl (Yl.field fo40_1 rfl) rfl ?_
    refine WD.tk 5 rfl (by kernel_rfl) rfl rfl (Yl.load on5 rfl (by repeat constructor) (by rfl)) rfl ?_
    refine WD.tk 6 rfl (by kernel_rfl) rfl rfl (Yl.loadNP (T := 32) (cs := k.cells) ag32 rfl (by repeat constructor) (by rw [k.clen]; omega) (by rw [List.drop_zero, List.take_of_length_le (by rw [k.clen]; omega)])) rfl ?_
    refine WD.tk 7 rfl (by kernel_rfl) rfl rfl (Yl.nilCheck rfl) rfl ?_
    refine WD.tk 8 rfl (by kernel_rfl) rfl rfl (Yl.field fo70_1 rfl) rfl ?_
    refine WD.tk 9 rfl (by kernel_rfl) rfl rfl (Yl.indexA un30 sz4 rfl rfl rfl (by omega)) rfl ?_
    refine WD.tk 11 rfl (by kernel_rfl) rfl rfl (Yl.nilCheck rfl) rfl ?_
    refine WD.tk 12 rfl (by kernel_rfl) rfl rfl (Yl.field fo70_0 rfl) rfl ?_
    refine WD.one 10 (by kernel_rfl) ?_
    refine WO.sto rfl rfl .no (Sto.oneP (T := 70) (cs := newCt.cells) sz4 rfl rfl (by repeat constructor) rfl (by rw [Ct.len hok]; omega) (Ct.setHas' hok hi true (by omega))) ⟨_, (by repeat' constructor)⟩ ?_
    refine WD.tk 13 rfl (by kernel_rfl) rfl rfl (Yl.indexA un33 sz32 rfl rfl rfl (by omega)) rfl ?_
    refine WD.one 14 (by kernel_rfl) ?_
    refine WO.sto rfl rfl .no (Sto.aggP (T := 70) (cs := ({ newCt with has := newCt.has.set i true } : Ct).cells) sz32 rfl rfl (by repeat constructor) k.ones k.clen (by rw [Ct.len (Ct.okHas hok i true)]; omega) (Ct.setKey' (Ct.okHas hok i true) hi k (by omega) (by omega))) ⟨_, (by repeat' constructor)⟩ ?_
    refine WD.done (by kernel_rfl) ?_
    refine WC.seq ?_
    refine WC.midX (α := Unit) (fun _ => [(9, .pointer (some ⟨b28, 0, none⟩)), (10, .bool hd), (11, .bool (hd && decide (k0 = k))), (76, .bool (decide (newCt.st = 2) && !(hd && decide (k0 = k))))]) (fun _ => [blkR b4 40 [.int .u8 a, .int .u8 (i : Int)], blkR b5 32 k.cells, blkR b28 70 (⟨newCt.ks.set i k, newCt.has.set i true, newCt.st⟩ : Ct).cells, blkR b 67 [.int .u8 acc, .slice ao own.length cp, .map (some mb)], rwK (.slice ao own.length cp) own.length own, mapR (Value.int .u8) ptV mb (mput (pm es) a b28), allR (es.map ctR)]) (fun _ => True) ?_ ?_
    · refine WC.region ?_
      refine WL.y (Yl.move rfl) rfl ?_
      refine WL.y (Yl.nilCheck rfl) rfl ?_
      refine WL.y (Yl.field fo70_2 rfl) rfl ?_
      refine WL.y (Yl.load (T := 70) (cs := (⟨newCt.ks.set i k, newCt.has.set i true, newCt.st⟩ : Ct).cells) on5 rfl (by repeat constructor) (Ct.stAt hokM)) rfl ?_
      refine WL.y (Yl.eql rfl rfl) rfl ?_
      refine WL.y (Yl.move rfl) rfl ?_
      refine WL.both (t := 73) rfl (fun g73 => ?_) (fun g73 => ?_)
      · refine WL.on rfl rfl ?_
        refine WL.y (Yl.move rfl) rfl ?_
        refine WL.on rfl rfl ?_
        refine WL.y (Yl.not rfl) rfl ?_
        refine WL.y (Yl.pickT rfl rfl) rfl ?_
        refine WL.say (t := 76) (v' := .bool (decide (newCt.st = 2) && !(hd && decide (k0 = k)))) rfl (by simp_all) ?_
        refine WL.nil ?_
        exact ⟨rfl, (), trivial, (by repeat' constructor), _, (by repeat' constructor)⟩
      · refine WL.off rfl rfl rfl rfl ?_
        refine WL.off rfl rfl rfl rfl ?_
        refine WL.y (Yl.pickF rfl rfl) rfl ?_
        refine WL.say (t := 76) (v' := .bool (decide (newCt.st = 2) && !(hd && decide (k0 = k)))) rfl (by simp_all) ?_
        refine WL.nil ?_
        exact ⟨rfl, (), trivial, (by repeat' constructor), _, (by repeat' constructor)⟩
    · rintro ⟨⟩ -
      refine WC.cond rfl (fun g76 => ?_) (fun g76 => ?_)
      · refine WC.region ?_
        refine WL.y (Yl.move rfl) rfl ?_
        refine WL.y (Yl.nilCheck rfl) rfl ?_
        refine WL.y (Yl.field fo70_2 rfl) rfl ?_
        refine WL.sto (Sto.oneP (T := 70) (cs := (⟨newCt.ks.set i k, newCt.has.set i true, newCt.st⟩ : Ct).cells) sz5 rfl rfl (by repeat constructor) rfl (by rw [Ct.len hokM]; omega) (Ct.setSt hokM 3)) (fun _ h => nomatch h) ?_
        refine WL.nil ?_
        refine WC.seq ?_
        refine WC.region ?_
        refine WL.y (Yl.move rfl) rfl ?_
        refine WL.y (Yl.move rfl) rfl ?_
        refine WL.both (t := 81) rfl (fun g81 => ?_) (fun g81 => ?_)
        · refine WL.on rfl rfl ?_
          refine WL.y (Yl.move rfl) rfl ?_
          refine WL.on rfl rfl ?_
          refine WL.y (Yl.not rfl) rfl ?_
          refine WL.y (Yl.pickT rfl rfl) rfl ?_
          refine WL.say (t := 84) (v' := .bool (hd && !(hd && decide (k0 = k)))) rfl (by simp_all) ?_
          refine WL.y (Yl.assign rfl) rfl ?_
          refine WL.y (Yl.assign rfl) rfl ?_
          refine WL.nil ?_
          refine WC.ret ?_
          repeat (with_reducible (first | refine peelT ?_ | refine peelB ?_ | refine peelTX ?_ | refine peelBX ?_ | refine peelBN ?_ | refine peelBO rfl ?_))
          have hfin := hnx 3 (by rw [if_pos (and_T g76)])
          have hmo := hE.more (nb := b28) ha h2 (learnT_ok (hco ▸ hok : (ctOf (pj es) a).ok) i k)
          refine ret2 (.inr rfl) Tryz.results6 rfl rfl fun w' h => ⟨es ++ [(a, b28, learnT (ctOf (pj es) a) i k)], ⟨hmo.2, hmo.1⟩, rfl, ?_⟩
          rw [← hfin]
          rw [pm_more h1 (c' := (⟨newCt.ks.set i k, newCt.has.set i true, 3⟩ : Ct))] at h
          exact (OK.allMore (f := ctR) (x := (a, b28, (⟨newCt.ks.set i k, newCt.has.set i true, 3⟩ : Ct))) h (by repeat' constructor)).sub (by repeat' constructor)
        · refine WL.off rfl rfl rfl rfl ?_
          refine WL.off rfl rfl rfl rfl ?_
          refine WL.y (Yl.pickF rfl rfl) rfl ?_
          refine WL.say (t := 84) (v' := .bool (hd && !(hd && decide (k0 = k)))) rfl (by simp_all) ?_
          refine WL.y (Yl.assign rfl) rfl ?_
          refine WL.y (Yl.assign rfl) rfl ?_
          refine WL.nil ?_
          refine WC.ret ?_
          repeat (with_reducible (first | refine peelT ?_ | refine peelB ?_ | refine peelTX ?_ | refine peelBX ?_ | refine peelBN ?_ | refine peelBO rfl ?_))
          have hfin := hnx 3 (by rw [if_pos (and_T g76)])
          have hmo := hE.more (nb := b28) ha h2 (learnT_ok (hco ▸ hok : (ctOf (pj es) a).ok) i k)
          refine ret2 (.inr rfl) Tryz.results6 rfl rfl fun w' h => ⟨es ++ [(a, b28, learnT (ctOf (pj es) a) i k)], ⟨hmo.2, hmo.1⟩, rfl, ?_⟩
          rw [← hfin]
          rw [pm_more h1 (c' := (⟨newCt.ks.set i k, newCt.has.set i true, 3⟩ : Ct))] at h
          exact (OK.allMore (f := ctR) (x := (a, b28, (⟨newCt.ks.set i k, newCt.has.set i true, 3⟩ : Ct))) h (by repeat' constructor)).sub (by repeat' constructor)
      · refine WC.skip ?_
        refine WC.seq ?_
        refine WC.region ?_
        refine WL.y (Yl.move rfl) rfl ?_
        refine WL.y (Yl.move rfl) rfl ?_
        refine WL.both (t := 81) rfl (fun g81 => ?_) (fun g81 => ?_)
        · refine WL.on rfl rfl ?_
          refine WL.y (Yl.move rfl) rfl ?_
          refine WL.on rfl rfl ?_
          refine WL.y (Yl.not rfl) rfl ?_
          refine WL.y (Yl.pickT rfl rfl) rfl ?_
          refine WL.say (t := 84) (v' := .bool (hd && !(hd && decide (k0 = k)))) rfl (by simp_all) ?_
          refine WL.y (Yl.assign rfl) rfl ?_
          refine WL.y (Yl.assign rfl) rfl ?_
          refine WL.nil ?_
          refine WC.ret ?_
          repeat (with_reducible (first | refine peelT ?_ | refine peelB ?_ | refine peelTX ?_ | refine peelBX ?_ | refine peelBN ?_ | refine peelBO rfl ?_))
          have hfin := hnx newCt.st (by rw [if_neg (and_F g76)])
          have hmo := hE.more (nb := b28) ha h2 (learnT_ok (hco ▸ hok : (ctOf (pj es) a).ok) i k)
          refine ret2 (.inr rfl) Tryz.results6 rfl rfl fun w' h => ⟨es ++ [(a, b28, learnT (ctOf (pj es) a) i k)], ⟨hmo.2, hmo.1⟩, rfl, ?_⟩
          rw [← hfin]
          rw [pm_more h1 (c' := (⟨newCt.ks.set i k, newCt.has.set i true, newCt.st⟩ : Ct))] at h
          exact (OK.allMore (f := ctR) (x := (a, b28, (⟨newCt.ks.set i k, newCt.has.set i true, newCt.st⟩ : Ct))) h (by repeat' constructor)).sub (by repeat' constructor)
        · refine WL.off rfl rfl rfl rfl ?_
          refine WL.off rfl rfl rfl rfl ?_
          refine WL.y (Yl.pickF rfl rfl) rfl ?_
          refine WL.say (t := 84) (v' := .bool (hd && !(hd && decide (k0 = k)))) rfl (by simp_all) ?_
          refine WL.y (Yl.assign rfl) rfl ?_
          refine WL.y (Yl.assign rfl) rfl ?_
          refine WL.nil ?_
          refine WC.ret ?_
          repeat (with_reducible (first | refine peelT ?_ | refine peelB ?_ | refine peelTX ?_ | refine peelBX ?_ | refine peelBN ?_ | refine peelBO rfl ?_))
          have hfin := hnx newCt.st (by rw [if_neg (and_F g76)])
          have hmo := hE.more (nb := b28) ha h2 (learnT_ok (hco ▸ hok : (ctOf (pj es) a).ok) i k)
          refine ret2 (.inr rfl) Tryz.results6 rfl rfl fun w' h => ⟨es ++ [(a, b28, learnT (ctOf (pj es) a) i k)], ⟨hmo.2, hmo.1⟩, rfl, ?_⟩
          rw [← hfin]
          rw [pm_more h1 (c' := (⟨newCt.ks.set i k, newCt.has.set i true, newCt.st⟩ : Ct))] at h
          exact (OK.allMore (f := ctR) (x := (a, b28, (⟨newCt.ks.set i k, newCt.has.set i true, newCt.st⟩ : Ct))) h (by repeat' constructor)).sub (by repeat' constructor)
set_option maxHeartbeats 1600000 in
set_option maxRecDepth 100000 in
theorem learn_old (b : Nat) (ao : Option Addr) (cp mb : Nat) (acc : Int) (own : List Ky) (es : Es) (hE : EG es) (a : Int) (ha : 0 ≤ a ∧ a < 256) (i : Nat) (hi : i < 4) (k : Ky) (hm : mayF acc a (i : Int) = 0) (j nb : Nat) (c : Ct) (hj : es[j]? = some (a, nb, c)) (h1 : mget (pm es) a = some nb) (h2 : mget (pj es) a = some c) (w : World) (hw : OK w (fpL (bkL b ao cp mb acc own es)) (bkL b ao cp mb acc own es) w) :
    Fn Tryz.prog 6 [.pointer (some ⟨b, 0, none⟩), .agg #[.int .u8 a, .int .u8 (i : Int)], kyV k] (bkL b ao cp mb acc own es) w (fun es' : Es => pj es' = learnC (pj es) a i k ∧ EG es') (fun _ => .tuple #[.bool (chgT (ctOf (pj es) a) i k), .int .i64 0]) (fun es' => bkL b ao cp mb acc own es') := by
  have hok := hE.ct _ (List.mem_of_getElem? hj)
  dsimp only at hok
  have hjl := (List.getElem?_eq_some_iff.1 hj).1
  have hco : ctOf (pj es) a = c := by unfold ctOf; rw [h2]; rfl
  obtain ⟨hd, hb⟩ : ∃ hd, c.has[i]? = some hd := ⟨_, List.getElem?_eq_getElem (by rw [hok.hl]; exact hi)⟩
  obtain ⟨k0, hk0⟩ : ∃ k0, c.ks[i]? = some k0 := ⟨_, List.getElem?_eq_getElem (by rw [hok.kl]; exact hi)⟩
  have hb2 : c.has.getD i false = hd := by rw [List.getD_eq_getElem?_getD, hb]; rfl
  have hk2 : c.ks.getD i Ky.zero = k0 := by rw [List.getD_eq_getElem?_getD, hk0]; rfl
  have hokM : (⟨c.ks.set i k, c.has.set i true, c.st⟩ : Ct).ok := ⟨by dsimp only; rw [List.length_set, hok.kl], by dsimp only; rw [List.length_set, hok.hl]⟩
  have hchg : chgT (ctOf (pj es) a) i k = (hd && !(hd && decide (k0 = k))) := by
    rw [hco]
    unfold chgT
    rw [hb2, hk2]
    cases hd <;> cases decide (k0 = k) <;> rfl
  have hnx : ∀ s, s = (if c.st = 2 ∧ (hd && decide (k0 = k)) = false then 3 else c.st) → (⟨c.ks.set i k, c.has.set i true, s⟩ : Ct) = learnT (ctOf (pj es) a) i k := by
    intro s hs
    rw [hco]
    unfold learnT
    dsimp only
    rw [hb2, hk2, hs]
  unfold kyV
  unfold learnC
  rw [hchg]
  refine enterF Tryz.func6 rfl Tryz.ntmps6 rfl hw ?_
  refine WC.seq ?_
  refine WC.region ?_
  refine WL.to (To.box (cs := [.int .u8 a, .int .u8 (i : Int)]) rfl rfl) rfl ?_
  intro b4
  refine WL.to (To.box (cs := k.cells) rfl rfl) rfl ?_
  intro b5
  refine WL.y (Yl.assign rfl) rfl ?_
  refine WL.y (Yl.assign rfl) rfl ?_
  refine WL.nil ?_
  refine WC.seq ?_
  refine WC.seq ?_
  refine WC.region ?_
  refine WL.y (Yl.move rfl) rfl ?_
  refine WL.y (Yl.loadN ag40 rfl (by repeat constructor) (by rfl) (by rfl)) rfl ?_
  refine WL.callC (xs := [.tmp 12, .tmp 13]) (cap := []) rfl rfl en25 (by repeat' constructor) (fun w hw => may_any b (.slice ao own.length cp) (.map (some mb)) acc a (i : Int) w hw.left.here) rfl ?_
  rintro ⟨⟩ -
  rw [hm]
  dsimp only [List.cons_append, List.nil_append]
  refine WL.y (Yl.assign rfl) rfl ?_
  refine WL.nil ?_
  refine WC.seq ?_
  refine WC.region ?_
  refine WL.y (Yl.move rfl) rfl ?_
  refine WL.y (Yl.neq rfl rfl) rfl ?_
  refine WL.nil ?_
  refine WC.condF rfl (by first | rfl | (simp; done) | (simp; omega)) ?_
  refine WC.skip ?_
  refine WC.seq ?_
  refine WC.drawRead mixed (by kernel_rfl) ?_
  refine WH.y (Yl.move rfl) rfl ?_
  refine WH.y (Yl.nilCheck rfl) rfl ?_
  refine WH.y (Yl.field fo67_2 rfl) rfl ?_
  refine WH.y (Yl.load on65 rfl (by repeat constructor) (by rfl)) rfl ?_
  refine WH.y (Yl.field fo40_0 rfl) rfl ?_
  refine WH.y (Yl.load on5 rfl (by repeat constructor) (by rfl)) rfl ?_
  refine WH.y (Yl.lookup (kv := Value.int .u8) (vv := ptV) (m := pm es) (z := .pointer none) keyU8 un65 zPC hE.pmk rfl rfl (u8_wf ha) (MReads.of (m := pm es) MapOf.own (by repeat constructor))) rfl ?_
  rw [h1]
  dsimp only [Option.map_some, Option.getD_some, ptV]
  refine WH.y (Yl.assign rfl) rfl ?_
  refine WH.nil ?_
  refine WC.seq ?_
  refine WC.seq ?_
  refine WC.region ?_
  refine WL.y (Yl.move rfl) rfl ?_
  refine WL.y (Yl.nilEq un68 rfl rfl) rfl ?_
  refine WL.know (t := 26) (b' := false) rfl (by first | rfl | (simp; done) | (simp; omega)) ?_
  refine WL.nil ?_
  refine WC.condF rfl (by first | rfl | (simp; done) | (simp; omega)) ?_
  refine WC.skip ?_
  refine WC.seq ?_
  refine WC.view (fun w h => h.allOut (f := ctR) (by repeat constructor) hj) ?_
  refine WC.drawRead mixed (by kernel_rfl) ?_
  refine WH.y (Yl.move rfl) rfl ?_
  refine WH.y (Yl.field fo40_1 rfl) rfl ?_
  refine WH.y (Yl.load on5 rfl (by repeat constructor) (by rfl)) rfl ?_
  refine WH.y (Yl.nilCheck rfl) rfl ?_
  refine WH.y (Yl.field fo70_1 rfl) rfl ?_
  refine WH.y (Yl.indexA un30 sz4 rfl rfl rfl (by omega)) rfl ?_
  refine WH.y (Yl.load (T := 70) (cs := c.cells) on4 rfl (by repeat constructor) (Ct.hasAt' hok hb (by omega))) rfl ?_
  refine WH.y (Yl.assign rfl) rfl ?_
  refine WH.nil ?_
  refine WC.midX (α := Unit) (fun _ => [(0, .pointer (some ⟨b, 0, none⟩)), (4, .pointer (some ⟨b4, 0, none⟩)), (5, .pointer (some ⟨b5, 0, none⟩)), (9, .pointer (some ⟨nb, 0, none⟩)), (10, .bool hd), (11, .bool (hd && decide (k0 = k)))]) (fun _ => [blkR b4 40 [.int .u8 a, .int .u8 (i : Int)], blkR b5 32 k.cells, blkR nb 70 c.cells, blkR b 67 [.int .u8 acc, .slice ao own.length cp, .map (some mb)], rwK (.slice ao own.length cp) own.length own, mapR (Value.int .u8) ptV mb (pm es), allR ((es.eraseIdx j).map ctR)]) (fun _ => True) ?_ ?_
  · refine WC.drawRead mixed (by kernel_rfl) ?_
    refine WH.y (Yl.move rfl) rfl ?_
    refine WH.y (Yl.move rfl) rfl ?_
    refine WH.both (t := 44) rfl (fun g44 => ?_) (fun g44 => ?_)
    · refine WH.on rfl rfl ?_
      refine WH.y (Yl.move rfl) rfl ?_
      refine WH.on rfl rfl ?_
      refine WH.y (Yl.field fo40_1 rfl) rfl ?_
      refine WH.on rfl rfl ?_
      refine WH.y (Yl.load on5 rfl (by repeat constructor) (by rfl)) rfl ?_
      refine WH.on rfl rfl ?_
      refine WH.y (Yl.nilCheck rfl) rfl ?_
      refine WH.on rfl rfl ?_
      refine WH.y (Yl.field fo70_0 rfl) rfl ?_
      refine WH.on rfl rfl ?_
      refine WH.y (Yl.indexA un33 sz32 rfl rfl rfl (by omega)) rfl ?_
      refine WH.on rfl rfl ?_
      refine WH.y (Yl.loadNP (T := 70) (cs := c.cells) ag32 rfl (by repeat constructor) (by rw [Ct.len hok]; omega) (Ct.key' hok hk0 (by omega))) rfl ?_
      refine WH.on rfl rfl ?_
      refine WH.y (Yl.loadNP (T := 32) (cs := k.cells) ag32 rfl (by repeat constructor) (by rw [k.clen]; omega) (by rw [List.drop_zero, List.take_of_length_le (by rw [k.clen]; omega)])) rfl ?_
      refine WH.on rfl rfl ?_
      refine WH.y (Yl.eqK (p := k0) (q := k) rfl rfl rfl) rfl ?_
      refine WH.y (Yl.pickT rfl rfl) rfl ?_
      refine WH.say (t := 54) (v' := .bool (hd && decide (k0 = k))) rfl (by simp_all) ?_
      refine WH.y (Yl.assign rfl) rfl ?_
      refine WH.nil ?_
      exact ⟨rfl, (), trivial, (by repeat' constructor), _, (by repeat' constructor)⟩
    · refine WH.off rfl rfl rfl rfl ?_
      refine WH.off rfl rfl rfl rfl ?_
      refine WH.off rfl rfl rfl rfl ?_
      refine WH.off rfl rfl rfl rfl ?_
      refine WH.off rfl rfl rfl rfl ?_
      refine WH.off rfl rfl rfl rfl ?_
      refine WH.off rfl rfl rfl rfl ?_
      refine WH.off rfl rfl rfl rfl ?_
      refine WH.off rfl rfl rfl rfl ?_
      refine WH.y (Yl.pickF rfl rfl) rfl ?_
      refine WH.say (t := 54) (v' := .bool (hd && decide (k0 = k))) rfl (by simp_all) ?_
      refine WH.y (Yl.assign rfl) rfl ?_
      refine WH.nil ?_
      exact ⟨rfl, (), trivial, (by repeat' constructor), _, (by repeat' constructor)⟩
  · rintro ⟨⟩ -
    refine WC.seq ?_
    refine WC.drawAny (Hs := [blkR b4 40 [.int .u8 a, .int .u8 (i : Int)], blkR b5 32 k.cells]) mixed (by kernel_rfl) ⟨_, (by repeat' constructor)⟩ ?_
    refine WD.tk 0 rfl (by kernel_rfl) rfl rfl (Yl.move rfl) rfl ?_
    refine WD.tk 1 rfl (by kernel_rfl) rfl rfl (Yl.field fo40_1 rfl) rfl ?_
    refine WD.tk 2 rfl (by kernel_rfl) rfl rfl (Yl.load on5 rfl (by repeat constructor) (by rfl)) rfl ?_
    refine WD.tk 3 rfl (by kernel_rfl) rfl rfl (Yl.move rfl) rfl ?_
    refine WD.tk 4 rfl (by kernel_rfl) rfl rfl (Yl.field fo40_1 rfl) rfl ?_
    refine WD.tk 5 rfl (by kernel_rfl) rfl rfl (Yl.load on5 rfl (by repeat constructor) (by rfl)) rfl ?_
    refine WD.tk 6 rfl (by kernel_rfl) rfl rfl (Yl.loadNP (T := 32) (cs := k.cells) ag32 rfl (by repeat constructor) (by rw [k.clen]; omega) (by rw [List.drop_zero, List.take_of_length_le (by rw [k.clen]; omega)])) rfl ?_
    refine WD.tk 7 rfl (by kernel_rfl) rfl rfl (Yl.nilCheck rfl) rfl ?_
    refine WD.tk 8 rfl (by kernel_rfl) rfl rfl (Yl.field fo70_1 rfl) rfl ?_
    refine WD.tk 9 rfl (by kernel_rfl) rfl rfl (Yl.indexA un30 sz4 rfl rfl rfl (by omega)) rfl ?_
    refine WD.tk 11 rfl (by kernel_rfl) rfl rfl (Yl.nilCheck rfl) rfl ?_
    refine WD.tk 12 rfl (by kernel_rfl) rfl rfl (Yl.field fo70_0 rfl) rfl ?_
    refine WD.one 10 (by kernel_rfl) ?_
    refine WO.sto rfl rfl .no (Sto.oneP (T := 70) (cs := c.cells) sz4 rfl rfl (by repeat constructor) rfl (by rw [Ct.len hok]; omega) (Ct.setHas' hok hi true (by omega))) ⟨_, (by repeat' constructor)⟩ ?_
    refine WD.tk 13 rfl (by kernel_rfl) rfl rfl (Yl.indexA un33 sz32 rfl rfl rfl (by omega)) rfl ?_
    refine WD.one 14 (by kernel_rfl) ?_
    refine WO.sto rfl rfl .no (Sto.aggP (T := 70) (cs := ({ c with has := c.has.set i true } : Ct).cells) sz32 rfl rfl (by repeat constructor) k.ones k.clen (by rw [Ct.len (Ct.okHas hok i true)]; omega) (Ct.setKey' (Ct.okHas hok i true) hi k (by omega) (by omega))) ⟨_, (by repeat' constructor)⟩ ?_
    refine WD.done (by kernel_rfl) ?_
    refine WC.seq ?_
    refine WC.midX (α := Unit) (fun _ => [(9, .pointer (some ⟨nb, 0, none⟩)), (10, .bool hd), (11, .bool (hd && decide (k0 = k))), (76, .bool (decide (c.st = 2) && !(hd && decide (k0 = k))))]) (fun _ => [blkR b4 40 [.int .u8 a, .int .u8 (i : Int)], blkR b5 32 k.cells, blkR nb 70 (⟨c.ks.set i k, c.has.set i true, c.st⟩ : Ct).cells, blkR b 67 [.int .u8 acc, .slice ao own.length cp, .map (some mb)], rwK (.slice ao own.length cp) own.length own, mapR (Value.int .u8) ptV mb (pm es), allR ((es.eraseIdx j).map ctR)]) (fun _ => True) ?_ ?_
    · refine WC.region ?_
      refine WL.y (Yl.move rfl) rfl ?_
      refine WL.y (Yl.nilCheck rfl) rfl ?_
      refine WL.y (Yl.field fo70_2 rfl) rfl ?_
      refine WL.y (Yl.load (T := 70) (cs := (⟨c.ks.set i k, c.has.set i true, c.st⟩ : Ct).cells) on5 rfl (by repeat constructor) (Ct.stAt hokM)) rfl ?_
      refine WL.y (Yl.eql rfl rfl) rfl ?_
      refine WL.y (Yl.move rfl) rfl ?_
      refine WL.both (t := 73) rfl (fun g73 => ?_) (fun g73 => ?_)
      · refine WL.on rfl rfl ?_
        refine WL.y (Yl.move rfl) rfl ?_
        refine WL.on rfl rfl ?_
        refine WL.y (Yl.not rfl) rfl ?_
        refine WL.y (Yl.pickT rfl rfl) rfl ?_
        refine WL.say (t := 76) (v' := .bool (decide (c.st = 2) && !(hd && decide (k0 = k)))) rfl (by simp_all) ?_
        refine WL.nil ?_
        exact ⟨rfl, (), trivial, (by repeat' constructor), _, (by repeat' constructor)⟩
      · refine WL.off rfl rfl rfl rfl ?_
        refine WL.off rfl rfl rfl rfl ?_
        refine WL.y (Yl.pickF rfl rfl) rfl ?_
        refine WL.say (t := 76) (v' := .bool (decide (c.st = 2) && !(hd && decide (k0 = k)))) rfl (by simp_all) ?_
        refine WL.nil ?_
        exact ⟨rfl, (), trivial, (by repeat' constructor), _, (by repeat' constructor)⟩
    · rintro ⟨⟩ -
      refine WC.cond rfl (fun g76 => ?_) (fun g76 => ?_)
      · refine WC.region ?_
        refine WL.y (Yl.move rfl) rfl ?_
        refine WL.y (Yl.nilCheck rfl) rfl ?_
        refine WL.y (Yl.field fo70_2 rfl) rfl ?_
        refine WL.sto (Sto.oneP (T := 70) (cs := (⟨c.ks.set i k, c.has.set i true, c.st⟩ : Ct).cells) sz5 rfl rfl (by repeat constructor) rfl (by rw [Ct.len hokM]; omega) (Ct.setSt hokM 3)) (fun _ h => nomatch h) ?_
        refine WL.nil ?_
        refine WC.seq ?_
        refine WC.region ?_
        refine WL.y (Yl.move rfl) rfl ?_
        refine WL.y (Yl.move rfl) rfl ?_
        refine WL.both (t := 81) rfl (fun g81 => ?_) (fun g81 => ?_)
        · refine WL.on rfl rfl ?_
          refine WL.y (Yl.move rfl) rfl ?_
          refine WL.on rfl rfl ?_
          refine WL.y (Yl.not rfl) rfl ?_
          refine WL.y (Yl.pickT rfl rfl) rfl ?_
          refine WL.say (t := 84) (v' := .bool (hd && !(hd && decide (k0 = k)))) rfl (by simp_all) ?_
          refine WL.y (Yl.assign rfl) rfl ?_
          refine WL.y (Yl.assign rfl) rfl ?_
          refine WL.nil ?_
          refine WC.ret ?_
          repeat (with_reducible (first | refine peelT ?_ | refine peelB ?_ | refine peelTX ?_ | refine peelBX ?_ | refine peelBN ?_ | refine peelBO rfl ?_))
          have hfin := hnx 3 (by rw [if_pos (and_T g76)])
          have hmo := hE.set hj (c' := learnT (ctOf (pj es) a) i k) (learnT_ok (hco ▸ hok : (ctOf (pj es) a).ok) i k)
          refine ret2 (.inr rfl) Tryz.results6 rfl rfl fun w' h => ⟨es.set j (a, nb, learnT (ctOf (pj es) a) i k), ⟨hmo.2, hmo.1⟩, rfl, ?_⟩
          rw [← hfin]
          rw [← pm_same (c' := (⟨c.ks.set i k, c.has.set i true, 3⟩ : Ct)) hj] at h
          exact (OK.allIn (f := ctR) (l := es) (i := j) (x := (a, nb, (⟨c.ks.set i k, c.has.set i true, 3⟩ : Ct))) h (by repeat' constructor) hjl).sub (by repeat' constructor)
        · refine WL.off rfl rfl rfl rfl ?_
          refine WL.off rfl rfl rfl rfl ?_
          refine WL.y (Yl.pickF rfl rfl) rfl ?_
          refine WL.say (t := 84) (v' := .bool (hd && !(hd && decide (k0 = k)))) rfl (by simp_all) ?_
          refine WL.y (Yl.assign rfl) rfl ?_
          refine WL.y (Yl.assign rfl) rfl ?_
          refine WL.nil ?_
          refine WC.ret ?_
          repeat (with_reducible (first | refine peelT ?_ | refine peelB ?_ | refine peelTX ?_ | refine peelBX ?_ | refine peelBN ?_ | refine peelBO rfl ?_))
          have hfin := hnx 3 (by rw [if_pos (and_T g76)])
          have hmo := hE.set hj (c' := learnT (ctOf (pj es) a) i k) (learnT_ok (hco ▸ hok : (ctOf (pj es) a).ok) i k)
          refine ret2 (.inr rfl) Tryz.results6 rfl rfl fun w' h => ⟨es.set j (a, nb, learnT (ctOf (pj es) a) i k), ⟨hmo.2, hmo.1⟩, rfl, ?_⟩
          rw [← hfin]
          rw [← pm_same (c' := (⟨c.ks.set i k, c.has.set i true, 3⟩ : Ct)) hj] at h
          exact (OK.allIn (f := ctR) (l := es) (i := j) (x := (a, nb, (⟨c.ks.set i k, c.has.set i true, 3⟩ : Ct))) h (by repeat' constructor) hjl).sub (by repeat' constructor)
      · refine WC.skip ?_
        refine WC.seq ?_
        refine WC.region ?_
        refine WL.y (Yl.move rfl) rfl ?_
        refine WL.y (Yl.move rfl) rfl ?_
        refine WL.both (t := 81) rfl (fun g81 => ?_) (fun g81 => ?_)
        · refine WL.on rfl rfl ?_
          refine WL.y (Yl.move rfl) rfl ?_
          refine WL.on rfl rfl ?_
          refine WL.y (Yl.not rfl) rfl ?_
          refine WL.y (Yl.pickT rfl rfl) rfl ?_
          refine WL.say (t := 84) (v' := .bool (hd && !(hd && decide (k0 = k)))) rfl (by simp_all) ?_
          refine WL.y (Yl.assign rfl) rfl ?_
          refine WL.y (Yl.assign rfl) rfl ?_
          refine WL.nil ?_
          refine WC.ret ?_
          repeat (with_reducible (first | refine peelT ?_ | refine peelB ?_ | refine peelTX ?_ | refine peelBX ?_ | refine peelBN ?_ | refine peelBO rfl ?_))
          have hfin := hnx c.st (by rw [if_neg (and_F g76)])
          have hmo := hE.set hj (c' := learnT (ctOf (pj es) a) i k) (learnT_ok (hco ▸ hok : (ctOf (pj es) a).ok) i k)
          refine ret2 (.inr rfl) Tryz.results6 rfl rfl fun w' h => ⟨es.set j (a, nb, learnT (ctOf (pj es) a) i k), ⟨hmo.2, hmo.1⟩, rfl, ?_⟩
          rw [← hfin]
          rw [← pm_same (c' := (⟨c.ks.set i k, c.has.set i true, c.st⟩ : Ct)) hj] at h
          exact (OK.allIn (f := ctR) (l := es) (i := j) (x := (a, nb, (⟨c.ks.set i k, c.has.set i true, c.st⟩ : Ct))) h (by repeat' constructor) hjl).sub (by repeat' constructor)
        · refine WL.off rfl rfl rfl rfl ?_
          refine WL.off rfl rfl rfl rfl ?_
          refine WL.y (Yl.pickF rfl rfl) rfl ?_
          refine WL.say (t := 84) (v' := .bool (hd && !(hd && decide (k0 = k)))) rfl (by simp_all) ?_
          refine WL.y (Yl.assign rfl) rfl ?_
          refine WL.y (Yl.assign rfl) rfl ?_
          refine WL.nil ?_
          refine WC.ret ?_
          repeat (with_reducible (first | refine peelT ?_ | refine peelB ?_ | refine peelTX ?_ | refine peelBX ?_ | refine peelBN ?_ | refine peelBO rfl ?_))
          have hfin := hnx c.st (by rw [if_neg (and_F g76)])
          have hmo := hE.set hj (c' := learnT (ctOf (pj es) a) i k) (learnT_ok (hco ▸ hok : (ctOf (pj es) a).ok) i k)
          refine ret2 (.inr rfl) Tryz.results6 rfl rfl fun w' h => ⟨es.set j (a, nb, learnT (ctOf (pj es) a) i k), ⟨hmo.2, hmo.1⟩, rfl, ?_⟩
          rw [← hfin]
          rw [← pm_same (c' := (⟨c.ks.set i k, c.has.set i true, c.st⟩ : Ct)) hj] at h
          exact (OK.allIn (f := ctR) (l := es) (i := j) (x := (a, nb, (⟨c.ks.set i k, c.has.set i true, c.st⟩ : Ct))) h (by repeat' constructor) hjl).sub (by repeat' constructor)
theorem learn_any (b : Nat) (ao : Option Addr) (cp mb : Nat) (acc : Int) (own : List Ky) (es : Es) (hE : EG es) (a : Int) (ha : 0 ≤ a ∧ a < 256) (i : Nat) (hi : i < 4) (k : Ky) (hm : mayF acc a (i : Int) = 0) (w : World) (hw : OK w (fpL (bkL b ao cp mb acc own es)) (bkL b ao cp mb acc own es) w) :
    Fn Tryz.prog 6 [.pointer (some ⟨b, 0, none⟩), .agg #[.int .u8 a, .int .u8 (i : Int)], kyV k] (bkL b ao cp mb acc own es) w (fun es' : Es => pj es' = learnC (pj es) a i k ∧ EG es') (fun _ => .tuple #[.bool (chgT (ctOf (pj es) a) i k), .int .i64 0]) (fun es' => bkL b ao cp mb acc own es') := by
  rcases es_cases es a with ⟨h1, h2⟩ | ⟨j, nb, c, hj, h1, h2⟩
  · exact learn_new b ao cp mb acc own es hE a ha i hi k hm h1 h2 w hw
  · exact learn_old b ao cp mb acc own es hE a ha i hi k hm j nb c hj h1 h2 w hw
end Go.Proofs.YtcplbkbimpiioaaGreatDoor
