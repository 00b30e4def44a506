/- Keys that came in, opened; a number that stands for a package's variable. -/
import Derived.Test.YtcplbkbimpiioaaGreatDoorRows
import Derived.Test.YtcplbkbimpiioaaGreatDoorTruB
import Derived.Test.YtcplbkbimpiioaaGreatDoorTruL
import Derived.Test.YtcplbkbimpiioaaGreatDoorLibUp
import Derived.Test.YtcplbkbimpiioaaGreatDoorLibM
import Derived.Shelf.Vars
import Derived.Test.YtcplbkbimpiioaaGreatDoorTpE
import Derived.Test.YtcplbkbimpiioaaGreatDoorTpO
import Derived.Test.YtcplbkbimpiioaaGreatDoorTpJ
namespace Go.Proofs.YtcplbkbimpiioaaGreatDoor
open Go Go.RowKit
set_option maxRecDepth 100000
theorem bulk_mem {H : Type} {d : DataW H} {l : List (DataW H)} (h : d ∈ l) : Rows.uptoBulk d ≤ Rows.uptoBulkAll l := by
  induction l with
  | nil => cases h
  | cons x r ih =>
    simp only [Rows.uptoBulkAll]
    cases List.mem_cons.1 h with
    | inl e => subst e; omega
    | inr e => have := ih e; omega
theorem bulk_one {H : Type} (d : DataW H) : 1 ≤ Rows.uptoBulk d := by
  cases d with
  | lit l => cases l <;> simp [Rows.uptoBulk]
  | nil => simp [Rows.uptoBulk]
  | ptr d => simp [Rows.uptoBulk]
  | slice elems spare => simp [Rows.uptoBulk]
  | agg parts => simp [Rows.uptoBulk]
  | iface t d => simp [Rows.uptoBulk]
  | map entries => simp [Rows.uptoBulk]
  | held h => simp [Rows.uptoBulk]
theorem bulk_len {H : Type} (l : List (DataW H)) : l.length ≤ Rows.uptoBulkAll l := by
  induction l with
  | nil => simp [Rows.uptoBulkAll]
  | cons x r ih => have := bulk_one x; simp only [Rows.uptoBulkAll, List.length_cons]; omega
theorem bulkMu {H : Type} : Mu (Rows.uptoBulk (H := H)) where
  len := fun elems spare => by have := bulk_len elems; simp only [Rows.uptoBulk]; omega
  elem := fun elems spare d h => by have := bulk_mem h; simp only [Rows.uptoBulk]; omega
  agg := fun parts d h => by have := bulk_mem h; simp only [Rows.uptoBulk]; omega
theorem mx_int {w : World} (h : w.ShapedOpen Tryz.prog) : ∃ m, Rd w 1 mxV 1 [.int .i64 m] := by
  obtain ⟨m, hm⟩ : ∃ m, w.cell? ⟨0, 0, none⟩ = some (.int .i64 m) := cell_of_shapedOpen_int (g := 0) (t := 3) (zero := #[.int .i64 0]) (k := .i64) h (of_decide_eq_true (by kernel_rfl)) (by kernel_rfl) rfl (by kernel_rfl) (by kernel_rfl) (by kernel_rfl)
  refine ⟨m, rfl, .inr ⟨_, _, rfl, Nat.le_refl _, by unfold maxLen; omega, fun j u hj => ⟨rfl, ?_⟩⟩⟩
  cases j with
  | zero => cases hj; exact hm
  | succ j => simp at hj
theorem key_of {cs : List Value} (h : Fits1 (List.replicate 32 (some .u8)) cs) : ∃ k : Ky, cs = k.cells := by
  obtain ⟨ys, rfl, h1, h2⟩ := fits_bytes h
  exact ⟨⟨ys, h1, h2⟩, rfl⟩
section
variable {H : Type} {enc : TypeId × Value → H} {w : World} {base : Nat} {sp : Nat → Bool} {held : Bool}
theorem open_keys {a : Option Addr} {len cap : Nat} {x : DataW H} {p : List MemPlace} (h : DataW.Trod enc Tryz.prog w base sp held 22 (.slice a len cap) x p) :
    ∃ ks : List Ky, ks.length = len ∧ len ≤ Rows.uptoBulk x ∧ Rd w 32 (.slice a len cap) len (vcs kyV ks) := by
  obtain ⟨xss, h1, h2, h3⟩ := open_flats (d := 5) (ks := List.replicate 32 (some .u8)) un22 (by kernel_rfl) (by kernel_rfl) h
  obtain ⟨fuel, ht⟩ := h
  have hm := mu_slice bulkMu un22 ht
  have : ∃ ks : List Ky, xss = ks.map Ky.cells := by
    clear h1 h3
    induction xss with
    | nil => exact ⟨[], rfl⟩
    | cons ys xss ih =>
      obtain ⟨ks, rfl⟩ := ih (fun zs hz => h2 zs (by simp [hz]))
      obtain ⟨k, rfl⟩ := key_of (h2 ys (by simp)).1
      exact ⟨k :: ks, rfl⟩
  obtain ⟨ks, rfl⟩ := this
  refine ⟨ks, by rw [← h1, List.length_map], hm, ?_⟩
  have e : (ks.map Ky.cells).flatten = vcs kyV ks := by
    clear h1 h2 h3
    induction ks with
    | nil => rfl
    | cons k ks ih => rw [List.map_cons, List.flatten_cons, ih, vcs_cons, kyV_cells]
  rw [← e]
  exact h3
end
end Go.Proofs.YtcplbkbimpiioaaGreatDoor

namespace Go.Proofs.YtcplbkbimpiioaaGreatDoor
open Go Go.RowKit
/-- A call, as it came in. -/
structure Du where
  k : Int
  a : Int
  d : Int
  key : Ky
  t : ByteArray
def Du.cells (x : Du) : List Value := .int .u8 x.k :: .int .u8 x.a :: .int .u8 x.d :: (x.key.cells ++ [.string x.t])
def duV (x : Du) : Value := .agg x.cells.toArray
structure Du.ok (x : Du) : Prop where
  k : 0 ≤ x.k ∧ x.k < 256
  a : 0 ≤ x.a ∧ x.a < 256
  d : 0 ≤ x.d ∧ x.d < 256
theorem Du.clen (x : Du) : x.cells.length = 36 := by unfold Du.cells; simp [Ky.clen]
theorem Du.ones (x : Du) : ∀ v ∈ x.cells, v.oneCell' = true := by
  intro v hv
  simp only [Du.cells, List.mem_cons, List.mem_append, List.not_mem_nil, or_false] at hv
  rcases hv with rfl | rfl | rfl | hv | rfl
  · rfl
  · rfl
  · rfl
  · exact x.key.ones v hv
  · rfl
def Du.zero : Du := ⟨0, 0, 0, Ky.zero, ⟨#[]⟩⟩
theorem vtDu : VT Tryz.prog 42 36 (fun _ : Du => True) duV := .agg (cel := Du.cells) (by kernel_rfl) (by kernel_rfl) (by decide) (fun _ => rfl) (fun x _ => x.clen) (fun r => r.ones)
theorem Du.keyC (x : Du) : (x.cells.drop 3).take 32 = x.key.cells := by
  show (x.key.cells ++ [Value.string x.t]).take 32 = _
  exact List.take_left' x.key.clen
theorem mayF_two {acc a d : Int} (h : ¬ mayF acc a d = 0) : mayF acc a d = 2 := by
  unfold mayF at h ⊢
  split
  · rfl
  · rename_i h1; rw [if_neg h1] at h; exact absurd rfl h
theorem mayF_zero {acc a d : Int} (h : mayF acc a d = 0) : d < 4 := by
  unfold mayF at h
  split at h
  · cases h
  · rename_i h1; omega
theorem numT_len (acc : Int) (own : List Ky) (a : Int) (l : List Ky) : (numT acc own a l).length ≤ 60 := by
  unfold numT
  split
  · exact Nat.zero_le _
  · rw [numF_len, digF_len, digF_len]; omega
theorem nums_of (s : ByteArray) : ∃ ys : List Int, Bytes ys ∧ s = strOfNums ys := by
  refine ⟨s.data.toList.map (fun b => (b.toNat : Int)), fun y hy => ?_, ?_⟩
  · obtain ⟨b, _, rfl⟩ := List.mem_map.1 hy
    have := b.toNat_lt
    omega
  · apply ByteArray.ext
    apply Array.toList_inj.1
    rw [strOfNums_data, List.map_map]
    refine ((List.map_id _).symm.trans (List.map_congr_left fun b _ => ?_))
    simp
theorem fits_two {k k' : IntKind} {cs : List Value} (h : Fits1 [some k, some k'] cs) : ∃ y z : Int, cs = [.int k y, .int k' z] ∧ (Lit.int k y).wf = true ∧ (Lit.int k' z).wf = true := by
  match cs, h with
  | [.int q y, .int q' z], h => obtain ⟨⟨rfl, hw⟩, ⟨rfl, hw'⟩, _⟩ := h; exact ⟨y, z, rfl, hw, hw'⟩
theorem du_flat (l : List Du) : (l.map Du.cells).flatten = vcs duV l := by
  induction l with
  | nil => rfl
  | cons f fs ih => rw [List.map_cons, List.flatten_cons, ih, vcs_cons]; rfl
section
variable {H : Type} {enc : TypeId × Value → H} {w : World} {base : Nat} {sp : Nat → Bool} {held : Bool}
theorem open_du (n : Nat) (cs : List Value) (d : DataW H × List MemPlace) (h : DataW.trod enc Tryz.prog w base sp held n 42 cs = some d) : ∃ f : Du, cs = f.cells ∧ f.ok := by
  have hl := (open_fieldAtL (i := 0) (ft := 5) (off := 0) (c := 1) (by kernel_rfl) h).1
  rw [show Tryz.prog.cellsOf 42 = 36 by kernel_rfl] at hl
  obtain ⟨k, e0, w0⟩ := fits_int (open_fieldFL (i := 0) (ft := 5) (off := 0) (c := 1) (d := 5) (ks := [some .u8]) (by kernel_rfl) (by kernel_rfl) h)
  obtain ⟨a, b, e1, w1, w2⟩ := fits_two (open_fieldFL (i := 1) (ft := 40) (off := 1) (c := 2) (d := 5) (ks := [some .u8, some .u8]) (by kernel_rfl) (by kernel_rfl) h)
  obtain ⟨key, e3⟩ := key_of (open_fieldFL (i := 2) (ft := 32) (off := 3) (c := 32) (d := 5) (ks := List.replicate 32 (some .u8)) (by kernel_rfl) (by kernel_rfl) h)
  obtain ⟨_, m, y, hy, _⟩ := open_fieldAtL (i := 3) (ft := 9) (off := 35) (c := 1) (by kernel_rfl) h
  obtain ⟨s, e4, _, _⟩ := DataW.trod_string (by kernel_rfl) hy
  refine ⟨⟨k, a, b, key, s⟩, ?_, ⟨wf_u8 w0, wf_u8 w1, wf_u8 w2⟩⟩
  have s0 := step_drop 0 1 _ e0
  have s1 := step_drop 1 2 _ e1
  have s3 := step_drop 3 32 _ e3
  have s4 := step_drop 35 1 _ e4
  have s5 : cs.drop 36 = [] := List.drop_eq_nil_iff.2 (by omega)
  rw [List.drop_zero] at s0
  rw [s0, s1, s3, s4, s5]
  rfl
theorem open_dus {a : Option Addr} {len cap : Nat} {x : DataW H} {p : List MemPlace} (h : DataW.Trod enc Tryz.prog w base sp held 23 (.slice a len cap) x p) :
    ∃ fs : List Du, fs.length = len ∧ len ≤ Rows.uptoBulk x ∧ (∀ f ∈ fs, f.ok) ∧ Rd w 36 (.slice a len cap) len (vcs duV fs) := by
  obtain ⟨fs, h1, h2, h3, h4⟩ := mu_rows bulkMu (size := 36) Du.cells Du.ok (by kernel_rfl) (by kernel_rfl) (fun n cs d hd _ => open_du n cs d hd) h
  exact ⟨fs, h1, h2, h3, by rw [← du_flat]; exact h4⟩
end
theorem u8_rng {a : Int} (h : (Lit.int .u8 a).wf = true) : 0 ≤ a ∧ a < 256 := wf_u8 h
end Go.Proofs.YtcplbkbimpiioaaGreatDoor

namespace Go.Proofs.YtcplbkbimpiioaaGreatDoor
open Go Go.RowKit
theorem Marks.skip {ds : List Deferred} {H H' : List Res} {r : Res} (h : Marks ds H H') : Marks ds (r :: H) (r :: H') := by
  induction h with
  | nil => exact .nil
  | cons t _ ih => exact .cons (.tail t) ih
theorem marks_all (Dl : List Nat) : Marks (Dl.map dM) (markL Dl) [] := marks_end Dl []
/-- The device that was told last. -/
def lastD (D : List (Nat × Ky)) (i : Nat) : Int := if i = 0 then -1 else ((D[i - 1]?).map fun p => (p.1 : Int)).getD (-1)
theorem lastD_next {D : List (Nat × Ky)} {i : Nat} {p : Nat × Ky} (h : D[i]? = some p) : lastD D (i + 1) = (p.1 : Int) := by
  unfold lastD
  rw [if_neg (by omega), Nat.add_sub_cancel, h]; rfl
theorem lastD_lt {D : List (Nat × Ky)} (hD : D.Pairwise fun p q => p.1 < q.1) {i : Nat} {p : Nat × Ky} (h : D[i]? = some p) : lastD D i < (p.1 : Int) := by
  unfold lastD
  split
  · omega
  · rename_i hi
    cases hq : D[i - 1]? with
    | none => simp only [Option.map_none, Option.getD_none]; omega
    | some q =>
      have := asc_at hD hq h (by omega)
      simp only [Option.map_some, Option.getD_some]; omega
theorem devsAt_asc (l : Cs) (a : Int) : (devsAt l a).Pairwise fun p q => p.1 < q.1 := by
  unfold devsAt
  cases mget l a with
  | none => exact List.Pairwise.nil
  | some c => exact devs_asc 0 c.ks c.has
theorem devsAt_lt {l : Cs} (h : Inv l) (a : Int) : ∀ p ∈ devsAt l a, p.1 < 4 := by
  unfold devsAt
  cases hg : mget l a with
  | none => exact fun _ h => nomatch h
  | some c => exact Ct.dev_lt (h _ _ hg).1
set_option maxHeartbeats 3200000 in
set_option maxRecDepth 100000 in
theorem alike_any (b : Nat) (ao : Option Addr) (cp mb : Nat) (acc : Int) (own : List Ky) (ho : (setK own).length ≤ 4) (ho2 : own.length ≤ 12) (es : Es) (hE : EG es) (rb : Nat) (oa : Option Addr) (oc : Nat) (C : List Ct) (ha : 0 ≤ acc ∧ acc < 256) (hS : Same acc (pj es) C) (w : World) (hw : OK w (fpL (bkL b ao cp mb acc (setK own) es ++ [rbR rb acc (.slice oa own.length oc) C, rwK (.slice oa own.length oc) own.length own])) (bkL b ao cp mb acc (setK own) es ++ [rbR rb acc (.slice oa own.length oc) C, rwK (.slice oa own.length oc) own.length own]) w) :
    Fn Tryz.prog 19 [.pointer (some ⟨b, 0, none⟩), .pointer (some ⟨rb, 0, none⟩)] (bkL b ao cp mb acc (setK own) es ++ [rbR rb acc (.slice oa own.length oc) C, rwK (.slice oa own.length oc) own.length own]) w (fun _ : Unit => True) (fun _ => .bool true) (fun _ => bkL b ao cp mb acc (setK own) es ++ [rbR rb acc (.slice oa own.length oc) C, rwK (.slice oa own.length oc) own.length own]) := by
  have hC := hS.cok
  have hby : Bytes (bkB acc (setK own) (osOf (pj es))) := bkB_by ha _ (hS.osOk 8)
  have hos : rosTo C 8 = osOf (pj es) := hS.ros 8 (Nat.le_refl _)
  have hrb := fun w h => rbytes_any rb oa oc acc own ho2 C hC w h
  rw [hos] at hrb
  dsimp only [List.cons_append, List.nil_append]
  refine enterM Tryz.func19 rfl Tryz.ntmps19 rfl hw ?_
  refine WC.seq ?_
  refine WC.region ?_
  refine WL.to (To.alloc (cs := [.bool false]) zr4 rfl) rfl ?_
  intro b4
  refine WL.nil ?_
  refine WC.seq ?_
  refine WC.seq ?_
  refine WC.region ?_
  refine WL.y (Yl.move rfl) rfl ?_
  refine WL.nil ?_
  refine WC.block ?_
  refine WC.view (fun w h => h.mark0) ?_
  refine WC.loopM (α := Nat × List Nat) (fun p => [(0, .pointer (some ⟨b, 0, none⟩)), (1, .pointer (some ⟨rb, 0, none⟩)), (4, .pointer (some ⟨b4, 0, none⟩)), (11, .int .u8 (p.1 : Int))]) (fun p => markR p.2 :: blkR b4 4 [.bool false] :: (bkL b ao cp mb acc (setK own) es ++ [rbR rb acc (.slice oa own.length oc) C, rwK (.slice oa own.length oc) own.length own])) (fun p => p.2.map dM) (fun p => p.1 ≤ 10) (fun p => 10 - p.1) (0, []) (Nat.zero_le _) rfl ⟨(by repeat' constructor), _, (by repeat' constructor)⟩ ?_
  rintro ⟨a, Dl⟩ ha10
  dsimp only at ha10 ⊢
  dsimp only [List.cons_append, List.nil_append]
  refine WC.seq ?_
  refine WC.region ?_
  refine WL.y (Yl.lss rfl rfl) rfl ?_
  refine WL.nil ?_
  refine WC.seq ?_
  refine WC.condD rfl (fun g12 => ?_) (fun g12 => ?_)
  · refine WC.skip ?_
    refine WC.seq ?_
    refine WC.block ?_
    refine WC.seq ?_
    have ha9 : a < 10 := by omega
    have hky := hS.rkys a
    have hkd := kysAt_devs (pj es) (a : Int)
    have hDa := devsAt_asc (pj es) (a : Int)
    have hst := hS.rst a
    have hrk := fun w h => rkeys_any rb acc (.slice oa own.length oc) C hC a w h
    obtain ⟨K, hK⟩ : ∃ K, rkysAt C a = K := ⟨_, rfl⟩
    rw [hK] at hky hrk
    rw [← hky] at hkd
    have hK4 : K.length ≤ 4 := by rw [← hK]; exact hS.kle a
    refine WC.region ?_
    refine WL.y (Yl.move rfl) rfl ?_
    refine WL.to (To.alloc (cs := [.int .u8 0]) zr5 rfl) rfl ?_
    intro b5
    refine WL.sto (Sto.one sz5 rfl rfl (by repeat constructor) rfl (by rfl) (by rfl)) (fun _ h => nomatch h) ?_
    refine WL.nil ?_
    refine WC.seq ?_
    refine WC.region ?_
    refine WL.to (To.alloc (cs := [.int .i64 0]) zr3 rfl) rfl ?_
    intro b6
    refine WL.sto (Sto.one sz3 rfl rfl (by repeat constructor) rfl (by rfl) (by rfl)) (fun _ h => nomatch h) ?_
    refine WL.nil ?_
    refine WC.seq ?_
    refine WC.region ?_
    refine WL.y (Yl.move rfl) rfl ?_
    refine WL.y (Yl.load on5 rfl (by repeat constructor) (by rfl)) rfl ?_
    refine WL.callC (xs := [.tmp 14, .tmp 15]) (cap := []) rfl rfl en34 (by repeat' constructor) (fun w hw => hrk w hw.left.here) rfl ?_
    rintro ⟨a16, c16⟩ -
    dsimp only [List.cons_append, List.nil_append]
    refine WL.to (To.alloc (cs := [.slice none 0 0]) zr22 rfl) rfl ?_
    intro b7
    refine WL.sto (Sto.one sz22 rfl rfl (by repeat constructor) rfl (by rfl) (by rfl)) (fun _ h => nomatch h) ?_
    refine WL.nil ?_
    refine WC.seq ?_
    refine WC.region ?_
    refine WL.to (To.alloc (cs := [.int .i64 0]) zr3 rfl) rfl ?_
    intro b8
    refine WL.sto (Sto.one sz3 rfl rfl (by repeat constructor) rfl (by rfl) (by rfl)) (fun _ h => nomatch h) ?_
    refine WL.nil ?_
    refine WC.seq ?_
    refine WC.seq ?_
    refine WC.region ?_
    refine WL.y (Yl.move rfl) rfl ?_
    refine WL.y (Yl.load on5 rfl (by repeat constructor) (by rfl)) rfl ?_
    refine WL.callC (xs := [.tmp 17, .tmp 18]) (cap := []) rfl rfl en23 (by repeat' constructor) (fun w hw => keys_any b (a : Int) w hw.left.here) rfl ?_
    rintro ⟨b2, b3⟩ -
    dsimp only [List.cons_append, List.nil_append]
    refine WL.nil ?_
    refine WC.block ?_
    obtain ⟨D, hD⟩ : ∃ D, devsAt (pj es) (a : Int) = D := ⟨_, rfl⟩
    rw [hD] at hkd hDa
    have hDl : D.length = K.length := by rw [← hkd, List.length_map]
    refine WC.rangeW (α := Unit) (A := keyL b b2 b3 ao cp mb acc (setK own) es (a : Int)) (E := keyL b b2 b3 ao cp mb acc (setK own) es (a : Int)) (Ex := fun _ => keyL b b2 b3 ao cp mb acc (setK own) es (a : Int)) (lb := [.pointer (some ⟨b2, 0, none⟩), .pointer (some ⟨b3, 0, none⟩)]) (xs := ysK (a : Int) (devsAt (pj es) (a : Int))) (fun i _ => [blkR b6 3 [.int .i64 (i : Int)], blkR b8 3 [.int .i64 (lastD D i)], blkR b7 22 [.slice a16 K.length c16], rwK (.slice a16 K.length c16) K.length K, blkR b5 5 [.int .u8 (a : Int)]]) (fun _ _ => True) () rfl en58 (ysK_size (a : Int) _) rfl (by repeat' constructor) (keys_iterW b b2 b3 ao cp mb acc (setK own) es hE (a : Int) (by omega)) rfl (fun _ => rfl) trivial (by repeat' constructor) ?_ ?_
    · rintro l2 i y ⟨⟩ hy _ W
      obtain ⟨p, hp, rfl⟩ := ysK_at hy
      rw [hD] at hp
      have hil := (List.getElem?_eq_some_iff.1 hp).1
      have hk : K[i]? = some p.2 := by rw [← hkd, List.getElem?_map, hp]; rfl
      have hlt := lastD_lt hDa hp
      have hp4 := devsAt_lt hS.inv (a : Int) p (by rw [hD]; exact List.mem_of_getElem? hp)
      have hnx := lastD_next hp
      show WC _ _ _ ((21, kyV p.2) :: (20, .agg #[.int .u8 (a : Int), .int .u8 (p.1 : Int)]) :: _) _ _
      refine WC.seq ?_
      refine WC.region ?_
      refine WL.to (To.alloc (cs := [.int .u8 0, .int .u8 0]) zr40 rfl) rfl ?_
      intro b9
      refine WL.sto (Sto.agg sz40 rfl rfl (by repeat constructor) (by intro v hv; simp at hv; rcases hv with rfl | rfl <;> rfl) rfl (by rfl) (putAll rfl)) (fun _ h => nomatch h) ?_
      refine WL.nil ?_
      refine WC.region ?_
      refine WL.to (To.alloc (cs := ints .u8 (List.replicate 32 0)) zr32 rfl) rfl ?_
      intro b10
      refine WL.sto (Sto.agg sz32 rfl rfl (by repeat constructor) p.2.ones p.2.clen (by rfl) (putAll rfl)) (fun _ h => nomatch h) ?_
      refine WL.nil ?_
      repeat (with_reducible (first | refine peelT ?_ | refine peelB ?_ | refine peelTX ?_ | refine peelBX ?_ | refine peelBN ?_ | refine peelBO rfl ?_))
      refine fun W2 => ?_
      refine WC.block ?_
      refine WC.seq ?_
      refine WC.seq ?_
      refine WC.drawRead mixed (by kernel_rfl) ?_
      refine WH.y (Yl.load on3 rfl (by repeat constructor) (by rfl)) rfl ?_
      refine WH.y (Yl.load on22 rfl (by repeat constructor) (by rfl)) rfl ?_
      refine WH.y (Yl.len un22 rfl) rfl ?_
      refine WH.y (Yl.geq rfl rfl) rfl ?_
      refine WH.know (t := 25) (b' := false) rfl (by first | rfl | (simp; done) | (simp; omega)) ?_
      refine WH.y (Yl.move rfl) rfl ?_
      refine WH.on rfl rfl ?_
      refine WH.y (Yl.field fo40_0 rfl) rfl ?_
      refine WH.on rfl rfl ?_
      refine WH.y (Yl.load on5 rfl (by repeat constructor) (by rfl)) rfl ?_
      refine WH.on rfl rfl ?_
      refine WH.y (Yl.load on5 rfl (by repeat constructor) (by rfl)) rfl ?_
      refine WH.on rfl rfl ?_
      refine WH.y (Yl.neq rfl rfl) rfl ?_
      refine WH.know (t := 30) (b' := false) rfl (by first | rfl | (simp; done) | (simp; omega)) ?_
      refine WH.y (Yl.pickF rfl rfl) rfl ?_
      refine WH.y (Yl.move rfl) rfl ?_
      refine WH.on rfl rfl ?_
      refine WH.y (Yl.field fo40_1 rfl) rfl ?_
      refine WH.on rfl rfl ?_
      refine WH.y (Yl.load on5 rfl (by repeat constructor) (by rfl)) rfl ?_
      refine WH.on rfl rfl ?_
      refine WH.y (Yl.conv un5 un3 rfl (IntWalk.i64_in _ (by omega))) rfl ?_
      refine WH.on rfl rfl ?_
      refine WH.y (Yl.load on3 rfl (by repeat constructor) (by rfl)) rfl ?_
      refine WH.on rfl rfl ?_
      refine WH.y (Yl.leq rfl rfl) rfl ?_
      refine WH.know (t := 37) (b' := false) rfl (by first | rfl | (simp; done) | (simp; omega)) ?_
      refine WH.y (Yl.pickF rfl rfl) rfl ?_
      refine WH.y (Yl.move rfl) rfl ?_
      refine WH.on rfl rfl ?_
      refine WH.y (Yl.loadNP (T := 32) (cs := p.2.cells) (cs' := p.2.cells) ag32 rfl (by repeat constructor) (by rw [p.2.clen]; omega) (by rw [List.drop_zero, List.take_of_length_le (by rw [p.2.clen]; omega)])) rfl ?_
      refine WH.on rfl rfl ?_
      refine WH.y (Yl.load on22 rfl (by repeat constructor) (by rfl)) rfl ?_
      refine WH.on rfl rfl ?_
      refine WH.y (Yl.load on3 rfl (by repeat constructor) (by rfl)) rfl ?_
      refine WH.on rfl rfl ?_
      refine WH.y (Yl.index un22 sz32 rfl rfl (Reads.of (r := rwK (.slice a16 K.length c16) K.length K) RdOf.own (by repeat constructor)) rfl (by omega)) rfl ?_
      refine WH.on rfl rfl ?_
      refine WH.y (Yl.loadV (j := i) (u := p.2) vtK (fun _ _ => trivial) rfl (Reads.of (r := rwK (.slice a16 K.length c16) K.length K) RdOf.own (by repeat constructor)) rfl hk) rfl ?_
      refine WH.on rfl rfl ?_
      refine WH.y (Yl.neK (p := p.2) (q := p.2) rfl rfl rfl) rfl ?_
      refine WH.know (t := 45) (b' := false) rfl (by simp) ?_
      refine WH.y (Yl.pickF rfl rfl) rfl ?_
      refine WH.nil ?_
      refine WC.condF rfl (by first | rfl | (simp; done) | (simp; omega)) ?_
      refine WC.skip ?_
      refine WC.seq ?_
      refine WC.region ?_
      refine WL.y (Yl.field fo40_1 rfl) rfl ?_
      refine WL.y (Yl.load on5 rfl (by repeat constructor) (by rfl)) rfl ?_
      refine WL.y (Yl.conv un5 un3 rfl (IntWalk.i64_in _ (by omega))) rfl ?_
      refine WL.sto (Sto.one sz3 rfl rfl (by repeat constructor) rfl (by rfl) (by rfl)) (fun _ h => nomatch h) ?_
      refine WL.nil ?_
      refine WC.region ?_
      refine WL.y (Yl.load on3 rfl (by repeat constructor) (by rfl)) rfl ?_
      refine WL.y (Yl.add rfl rfl (IntWalk.i64_in _ (by omega))) rfl ?_
      refine WL.sto (Sto.one sz3 rfl rfl (by repeat constructor) rfl (by rfl) (by rfl)) (fun _ h => nomatch h) ?_
      refine WL.nil ?_
      repeat (with_reducible (first | refine peelT ?_ | refine peelB ?_ | refine peelTX ?_ | refine peelBX ?_ | refine peelBN ?_ | refine peelBO rfl ?_))
      exact ⟨[blkR b6 3 [.int .i64 ((i + 1 : Nat) : Int)], blkR b8 3 [.int .i64 (lastD D (i + 1))], blkR b7 22 [.slice a16 K.length c16], rwK (.slice a16 K.length c16) K.length K, blkR b5 5 [.int .u8 (a : Int)]], _, (by rw [hnx]; exact (by repeat' constructor)), (), trivial, rfl⟩
    · rintro ⟨⟩ Dm -
      rw [ysK_len, hD, hDl]
      dsimp only [keyL, List.cons_append, List.nil_append]
      refine WC.view (fun w h => h.markAdd (D := Dm) (Dl := Dl) (by repeat constructor) (by repeat constructor)) ?_
      refine WC.seq ?_
      refine WC.drawAny (Hs := [blkR b5 5 [.int .u8 (a : Int)], blkR b6 3 [.int .i64 (K.length : Int)], blkR b7 22 [.slice a16 K.length c16], blkR b 67 [.int .u8 acc, .slice ao (setK own).length cp, .map (some mb)], rwK (.slice ao (setK own).length cp) (setK own).length (setK own), mapR (Value.int .u8) ptV mb (pm es), allR (es.map ctR), rbR rb acc (.slice oa own.length oc) C]) mixed (by kernel_rfl) ⟨_, (by repeat' constructor)⟩ ?_
      refine WD.tk 0 rfl (by kernel_rfl) rfl rfl (Yl.load on3 rfl (by repeat constructor) (by rfl)) rfl ?_
      refine WD.tk 1 rfl (by kernel_rfl) rfl rfl (Yl.load on22 rfl (by repeat constructor) (by rfl)) rfl ?_
      refine WD.tk 2 rfl (by kernel_rfl) rfl rfl (Yl.len un22 rfl) rfl ?_
      refine WD.tk 3 rfl (by kernel_rfl) rfl rfl (Yl.neq rfl rfl) rfl ?_
      refine WD.know (t := 55) (b' := false) rfl (by first | rfl | (simp; done) | (simp; omega)) ?_
      refine WD.tk 4 rfl (by kernel_rfl) rfl rfl (Yl.move rfl) rfl ?_
      refine WD.takeOn 5 rfl (by kernel_rfl) (by kernel_rfl) (by kernel_rfl) rfl rfl rfl rfl (Yl.move rfl) rfl ?_
      refine WD.takeOn 6 rfl (by kernel_rfl) (by kernel_rfl) (by kernel_rfl) rfl rfl rfl rfl (Yl.load on5 rfl (by repeat constructor) (by rfl)) rfl ?_
      refine WD.takeOn 8 rfl (by kernel_rfl) (by kernel_rfl) (by kernel_rfl) rfl rfl rfl rfl (Yl.move rfl) rfl ?_
      refine WD.takeOn 9 rfl (by kernel_rfl) (by kernel_rfl) (by kernel_rfl) rfl rfl rfl rfl (Yl.load on5 rfl (by repeat constructor) (by rfl)) rfl ?_
      refine WD.one 7 (by kernel_rfl) ?_
      refine WO.callC (xs := [.tmp 57, .tmp 58]) (cap := []) rfl (.on rfl rfl) rfl rfl en22 (by repeat' constructor) (fun w hw => state_any b ao cp mb acc (setK own) es hE (a : Int) (by omega) w hw.left.here) rfl (fun _ => ⟨_, (by repeat' constructor)⟩) ?_
      rintro ⟨⟩ -
      refine WD.one 10 (by kernel_rfl) ?_
      refine WO.callC (xs := [.tmp 60, .tmp 61]) (cap := []) rfl (.on rfl rfl) rfl rfl en37 (by repeat' constructor) (fun w hw => rstate_any rb acc (.slice oa own.length oc) C hC a w hw.left.here) rfl (fun _ => ⟨_, (by repeat' constructor)⟩) ?_
      rintro ⟨⟩ -
      refine WD.takeOn 11 rfl (by kernel_rfl) (by kernel_rfl) (by kernel_rfl) rfl rfl rfl rfl (Yl.neq rfl rfl) rfl ?_
      refine WD.know (t := 63) (b' := false) rfl (by rw [hst]; simp) ?_
      refine WD.tk 12 rfl (by kernel_rfl) rfl rfl (Yl.pickF rfl rfl) rfl ?_
      refine WD.done (by kernel_rfl) ?_
      refine WC.condF rfl (by first | rfl | (simp; done) | (simp; omega)) ?_
      refine WC.skip ?_
      refine WC.region ?_
      refine WL.y (Yl.add rfl rfl (show IntKind.u8.wrap ((a : Int) + 1) = ((a + 1 : Nat) : Int) by rw [IntKind.wrap_u8]; omega)) rfl ?_
      refine WL.y (Yl.move rfl) rfl ?_
      refine WL.nil ?_
      exact ⟨(a + 1, Dm :: Dl), rfl, by dsimp only; omega, by dsimp only; omega, (by repeat' constructor), _, (by repeat' constructor)⟩
  · refine WC.exit ?_
    refine WC.seq ?_
    have hbl := bkB_len acc (setK own) (osOf (pj es))
    have hby2 := fun w h => bytes_any b ao cp mb acc (setK own) ho es hE C hS w h
    obtain ⟨X, hX⟩ : ∃ X, bkB acc (setK own) (osOf (pj es)) = X := ⟨_, rfl⟩
    rw [hX] at hby hrb hby2
    refine WC.view (fun w h => h.markEnd (Dl := Dl) (by repeat constructor)) ?_
    dsimp only [List.cons_append, List.nil_append]
    refine WC.drawAny (Hs := [blkR b 67 [.int .u8 acc, .slice ao (setK own).length cp, .map (some mb)], rwK (.slice ao (setK own).length cp) (setK own).length (setK own), mapR (Value.int .u8) ptV mb (pm es), allR (es.map ctR), rbR rb acc (.slice oa own.length oc) C, rwK (.slice oa own.length oc) own.length own]) mixed (by kernel_rfl) ⟨_, (by repeat' constructor)⟩ ?_
    refine WD.tk 0 rfl (by kernel_rfl) rfl rfl (Yl.move rfl) rfl ?_
    refine WD.tk 3 rfl (by kernel_rfl) rfl rfl (Yl.move rfl) rfl ?_
    refine WD.one 1 (by kernel_rfl) ?_
    refine WO.callC (xs := [.tmp 66]) (cap := []) rfl .no rfl rfl en18 (by repeat' constructor) (fun w hw => hby2 w hw.left.here) rfl (fun _ => ⟨_, (by repeat' constructor)⟩) ?_
    rintro ⟨a67, c67⟩ -
    refine WD.two 2 4 (by kernel_rfl) ?_ ?_
    · refine WO.y rfl rfl .no (Yl.toStr (xs := X) un54 un5 un9 rfl (Reads.of (r := ownR (.slice a67 X.length c67) 5 1 X.length (ints .u8 X)) RdOf.own (by repeat constructor))) rfl ?_
      refine WD.one 4 (by kernel_rfl) ?_
      refine WO.callC (xs := [.tmp 69]) (cap := []) rfl .no rfl rfl en57 (by repeat' constructor) (fun w hw => hrb w hw.left.here) rfl (fun _ => ⟨_, (by repeat' constructor)⟩) ?_
      rintro ⟨a70, c70⟩ -
      refine WD.one 5 (by kernel_rfl) ?_
      refine WO.y rfl rfl .no (Yl.toStr (xs := X) un54 un5 un9 rfl (Reads.of (r := ownR (.slice a70 X.length c70) 5 1 X.length (ints .u8 X)) RdOf.own (by repeat constructor))) rfl ?_
      refine WD.tk 6 rfl (by kernel_rfl) rfl rfl (Yl.sEqT hby hby rfl rfl) rfl ?_
      refine WD.know (t := 72) (b' := true) rfl (by simp) ?_
      refine WD.one 7 (by kernel_rfl) ?_
      refine WO.sto rfl rfl .no (Sto.one sz4 rfl rfl (by repeat constructor) rfl (by rfl) (by rfl)) ⟨_, (by repeat' constructor)⟩ ?_
      refine WD.done (by kernel_rfl) ?_
      refine WC.ret ?_
      repeat (with_reducible (first | refine peelT ?_ | refine peelB ?_ | refine peelTX ?_ | refine peelBX ?_ | refine peelBN ?_ | refine peelBO rfl ?_))
      refine retM.of (by repeat (first | exact marks_all Dl | apply Marks.skip)) ?_
      exact retV1 (.inr rfl) Tryz.results19 on4 rfl (by repeat constructor) fun w' h => ⟨(), trivial, rfl, h.sub (by repeat' constructor)⟩
    · refine WO.callC (xs := [.tmp 69]) (cap := []) rfl .no rfl rfl en57 (by repeat' constructor) (fun w hw => hrb w hw.left.here) rfl (fun _ => ⟨_, (by repeat' constructor)⟩) ?_
      rintro ⟨a70, c70⟩ -
      refine WD.two 2 5 (by kernel_rfl) ?_ ?_
      · refine WO.y rfl rfl .no (Yl.toStr (xs := X) un54 un5 un9 rfl (Reads.of (r := ownR (.slice a67 X.length c67) 5 1 X.length (ints .u8 X)) RdOf.own (by repeat constructor))) rfl ?_
        refine WD.one 5 (by kernel_rfl) ?_
        refine WO.y rfl rfl .no (Yl.toStr (xs := X) un54 un5 un9 rfl (Reads.of (r := ownR (.slice a70 X.length c70) 5 1 X.length (ints .u8 X)) RdOf.own (by repeat constructor))) rfl ?_
        refine WD.tk 6 rfl (by kernel_rfl) rfl rfl (Yl.sEqT hby hby rfl rfl) rfl ?_
        refine WD.know (t := 72) (b' := true) rfl (by simp) ?_
        refine WD.one 7 (by kernel_rfl) ?_
        refine WO.sto rfl rfl .no (Sto.one sz4 rfl rfl (by repeat constructor) rfl (by rfl) (by rfl)) ⟨_, (by repeat' constructor)⟩ ?_
        refine WD.done (by kernel_rfl) ?_
        refine WC.ret ?_
        repeat (with_reducible (first | refine peelT ?_ | refine peelB ?_ | refine peelTX ?_ | refine peelBX ?_ | refine peelBN ?_ | refine peelBO rfl ?_))
        refine retM.of (by repeat (first | exact marks_all Dl | apply Marks.skip)) ?_
        exact retV1 (.inr rfl) Tryz.results19 on4 rfl (by repeat constructor) fun w' h => ⟨(), trivial, rfl, h.sub (by repeat' constructor)⟩
      · refine WO.y rfl rfl .no (Yl.toStr (xs := X) un54 un5 un9 rfl (Reads.of (r := ownR (.slice a70 X.length c70) 5 1 X.length (ints .u8 X)) RdOf.own (by repeat constructor))) rfl ?_
        refine WD.one 2 (by kernel_rfl) ?_
        refine WO.y rfl rfl .no (Yl.toStr (xs := X) un54 un5 un9 rfl (Reads.of (r := ownR (.slice a67 X.length c67) 5 1 X.length (ints .u8 X)) RdOf.own (by repeat constructor))) rfl ?_
        refine WD.tk 6 rfl (by kernel_rfl) rfl rfl (Yl.sEqT hby hby rfl rfl) rfl ?_
        refine WD.know (t := 72) (b' := true) rfl (by simp) ?_
        refine WD.one 7 (by kernel_rfl) ?_
        refine WO.sto rfl rfl .no (Sto.one sz4 rfl rfl (by repeat constructor) rfl (by rfl) (by rfl)) ⟨_, (by repeat' constructor)⟩ ?_
        refine WD.done (by kernel_rfl) ?_
        refine WC.ret ?_
        repeat (with_reducible (first | refine peelT ?_ | refine peelB ?_ | refine peelTX ?_ | refine peelBX ?_ | refine peelBN ?_ | refine peelBO rfl ?_))
        refine retM.of (by repeat (first | exact marks_all Dl | apply Marks.skip)) ?_
        exact retV1 (.inr rfl) Tryz.results19 on4 rfl (by repeat constructor) fun w' h => ⟨(), trivial, rfl, h.sub (by repeat' constructor)⟩
end Go.Proofs.YtcplbkbimpiioaaGreatDoor

namespace Go.Proofs.YtcplbkbimpiioaaGreatDoor
open Go Go.RowKit
theorem new_no (acc : Int) (v : Value) (n : Nat) (h : 8 ≤ acc ∨ n < 1 ∨ 4 < n) (al : Option Addr) (cl : Nat) (hv : v = .slice al n cl) (w : World) (hw : OK w (fpL []) [] w) :
    Fn Tryz.prog 5 [.int .u8 acc, v] [] w (fun _ : Unit => True) (fun _ => .tuple #[.pointer none, .int .i64 2]) (fun _ => []) := by
  subst hv
  refine enterF Tryz.func5 rfl Tryz.ntmps5 rfl hw ?_
  refine WC.seq ?_
  refine WC.region ?_
  refine WL.y (Yl.assign rfl) rfl ?_
  refine WL.y (Yl.assign rfl) rfl ?_
  refine WL.nil ?_
  refine WC.seq ?_
  refine WC.seq ?_
  refine WC.region ?_
  refine WL.y (Yl.move rfl) rfl ?_
  refine WL.y (Yl.geq rfl rfl) rfl ?_
  refine WL.y (Yl.move rfl) rfl ?_
  refine WL.both (t := 8) rfl (fun g8 => ?_) (fun g8 => ?_)
  · refine WL.off rfl rfl rfl rfl ?_
    refine WL.off rfl rfl rfl rfl ?_
    refine WL.off rfl rfl rfl rfl ?_
    refine WL.y (Yl.pickT rfl rfl) rfl ?_
    refine WL.y (Yl.move rfl) rfl ?_
    refine WL.off rfl rfl rfl rfl ?_
    refine WL.off rfl rfl rfl rfl ?_
    refine WL.off rfl rfl rfl rfl ?_
    refine WL.y (Yl.pickT rfl rfl) rfl ?_
    refine WL.know (t := 17) (b' := true) rfl (by first | rfl | (simp_all; done) | (simp_all; omega)) ?_
    refine WL.nil ?_
    refine WC.condT rfl (by first | rfl | (simp; done) | (simp; omega)) ?_
    refine WC.seq ?_
    refine WC.region ?_
    refine WL.y (Yl.assign rfl) rfl ?_
    refine WL.y (Yl.assign rfl) rfl ?_
    refine WL.nil ?_
    refine WC.ret ?_
    repeat (with_reducible (first | refine peelT ?_ | refine peelB ?_ | refine peelTX ?_ | refine peelBX ?_ | refine peelBN ?_ | refine peelBO rfl ?_))
    exact ret2 (.inr rfl) Tryz.results5 rfl rfl fun w' h => ⟨(), trivial, rfl, h.sub (by repeat' constructor)⟩
  · refine WL.on rfl rfl ?_
    refine WL.y (Yl.move rfl) rfl ?_
    refine WL.on rfl rfl ?_
    refine WL.y (Yl.len un22 rfl) rfl ?_
    refine WL.on rfl rfl ?_
    refine WL.y (Yl.lss rfl rfl) rfl ?_
    refine WL.y (Yl.pickF rfl rfl) rfl ?_
    refine WL.y (Yl.move rfl) rfl ?_
    refine WL.both (t := 13) rfl (fun g13 => ?_) (fun g13 => ?_)
    · refine WL.off rfl rfl rfl rfl ?_
      refine WL.off rfl rfl rfl rfl ?_
      refine WL.off rfl rfl rfl rfl ?_
      refine WL.y (Yl.pickT rfl rfl) rfl ?_
      refine WL.know (t := 17) (b' := true) rfl (by first | rfl | (simp_all; done) | (simp_all; omega)) ?_
      refine WL.nil ?_
      refine WC.condT rfl (by first | rfl | (simp; done) | (simp; omega)) ?_
      refine WC.seq ?_
      refine WC.region ?_
      refine WL.y (Yl.assign rfl) rfl ?_
      refine WL.y (Yl.assign rfl) rfl ?_
      refine WL.nil ?_
      refine WC.ret ?_
      repeat (with_reducible (first | refine peelT ?_ | refine peelB ?_ | refine peelTX ?_ | refine peelBX ?_ | refine peelBN ?_ | refine peelBO rfl ?_))
      exact ret2 (.inr rfl) Tryz.results5 rfl rfl fun w' h => ⟨(), trivial, rfl, h.sub (by repeat' constructor)⟩
    · refine WL.on rfl rfl ?_
      refine WL.y (Yl.move rfl) rfl ?_
      refine WL.on rfl rfl ?_
      refine WL.y (Yl.len un22 rfl) rfl ?_
      refine WL.on rfl rfl ?_
      refine WL.y (Yl.gtr rfl rfl) rfl ?_
      refine WL.y (Yl.pickF rfl rfl) rfl ?_
      refine WL.know (t := 17) (b' := true) rfl (by first | rfl | (simp_all; done) | (simp_all; omega)) ?_
      refine WL.nil ?_
      refine WC.condT rfl (by first | rfl | (simp; done) | (simp; omega)) ?_
      refine WC.seq ?_
      refine WC.region ?_
      refine WL.y (Yl.assign rfl) rfl ?_
      refine WL.y (Yl.assign rfl) rfl ?_
      refine WL.nil ?_
      refine WC.ret ?_
      repeat (with_reducible (first | refine peelT ?_ | refine peelB ?_ | refine peelTX ?_ | refine peelBX ?_ | refine peelBN ?_ | refine peelBO rfl ?_))
      exact ret2 (.inr rfl) Tryz.results5 rfl rfl fun w' h => ⟨(), trivial, rfl, h.sub (by repeat' constructor)⟩
/-! ### Learnt -/
def lrnL (acc : Int) (l : Cs) (a d : Nat) (k : Ky) : Cs := if mayF acc (a : Int) (d : Int) = 0 then learnC l (a : Int) d k else l
def lrnC (acc : Int) (C : List Ct) (a d : Nat) (k : Ky) : List Ct := if mayF acc (a : Int) (d : Int) = 0 then (match C[a]? with
  | none => C
  | some c => C.set a (rlearnT c d k)) else C
def lrnA (acc : Int) (l : Cs) (a d : Nat) (k : Ky) : Bool := if mayF acc (a : Int) (d : Int) = 0 then chgT (ctOf l (a : Int)) d k else false
theorem Same.lrn {acc : Int} {l : Cs} {C : List Ct} (h : Same acc l C) (a d : Nat) (k : Ky) : Same acc (lrnL acc l a d k) (lrnC acc C a d k) := by
  unfold lrnL lrnC
  split
  · rename_i hm
    obtain ⟨ha, _, _⟩ := mayF_rng hm
    obtain ⟨c, hc⟩ : ∃ c, C[a]? = some c := ⟨_, List.getElem?_eq_getElem (by rw [h.len]; omega)⟩
    rw [hc]
    exact (h.learn hm hc k).1
  · exact h
theorem learn_p (b : Nat) (ao : Option Addr) (cp mb : Nat) (acc : Int) (own : List Ky) (es : Es) (hE : EG es) (a d : Nat) (ha : a < 256) (k : Ky) (w : World) (hw : OK w (fpL (bkL b ao cp mb acc own es)) (bkL b ao cp mb acc own es) w) :
    Fn Tryz.prog 6 [.pointer (some ⟨b, 0, none⟩), .agg #[.int .u8 (a : Int), .int .u8 (d : Int)], kyV k] (bkL b ao cp mb acc own es) w (fun es' : Es => EG es' ∧ pj es' = lrnL acc (pj es) a d k) (fun _ => .tuple #[.bool (lrnA acc (pj es) a d k), .int .i64 (mayF acc (a : Int) (d : Int))]) (fun es' => bkL b ao cp mb acc own es') := by
  unfold lrnL lrnA
  by_cases hm : mayF acc (a : Int) (d : Int) = 0
  · have hd4 := mayF_zero hm
    rw [if_pos hm, if_pos hm, hm]
    refine Calls.mono (learn_any b ao cp mb acc own es hE (a : Int) (by omega) d (by omega) k hm w hw) ?_
    rintro e w' ⟨es', ⟨h1, h2⟩, h3⟩
    exact ⟨es', ⟨h2, h1⟩, h3⟩
  · rw [if_neg hm, if_neg hm, mayF_two hm]
    refine Calls.mono (lift (c := ⟨Tryz.prog, none, 0, w, fpL (bkL b ao cp mb acc own es)⟩) (.cons .head .nil) (fun w' hw' => learn_bad b (.slice ao own.length cp) (.map (some mb)) acc (a : Int) (d : Int) k (mayF_two hm) w' hw'.left.here) w hw) ?_
    rintro e w' ⟨_, _, h3, h4⟩
    exact ⟨es, ⟨hE, rfl⟩, h3, h4⟩
theorem rlearn_p (b : Nat) (acc : Int) (ov : Value) (C : List Ct) (hC : COk C) (l : Cs) (hS : Same acc l C) (a d : Nat) (k : Ky) (w : World) (hw : OK w (fpL [rbR b acc ov C]) [rbR b acc ov C] w) :
    Fn Tryz.prog 7 [.pointer (some ⟨b, 0, none⟩), .agg #[.int .u8 (a : Int), .int .u8 (d : Int)], kyV k] [rbR b acc ov C] w (fun _ : Unit => True) (fun _ => .tuple #[.bool (lrnA acc l a d k), .int .i64 (mayF acc (a : Int) (d : Int))]) (fun _ => [rbR b acc ov (lrnC acc C a d k)]) := by
  unfold lrnC lrnA
  by_cases hm : mayF acc (a : Int) (d : Int) = 0
  · obtain ⟨ha, _, _⟩ := mayF_rng hm
    obtain ⟨c, hc⟩ : ∃ c, C[a]? = some c := ⟨_, List.getElem?_eq_getElem (by rw [hC.1]; omega)⟩
    have h2 := (hS.learn hm hc k).2
    rw [if_pos hm, if_pos hm, hm, hc, h2]
    exact rlearn_any b acc ov C hC a d k hm c hc w hw
  · rw [if_neg hm, if_neg hm, mayF_two hm]
    exact rlearn_bad b acc ov C (a : Int) (d : Int) k (mayF_two hm) w hw
/-! ### Forgotten -/
def fgtL (acc : Int) (l : Cs) (a d : Nat) : Cs := if mayF acc (a : Int) (d : Int) = 0 then forgetC l (a : Int) d else l
def fgtC (acc : Int) (C : List Ct) (a d : Nat) : List Ct := if mayF acc (a : Int) (d : Int) = 0 then (match C[a]? with
  | none => C
  | some c => if c.has.getD d false then C.set a (rforgetT c d) else C) else C
def fgtA (acc : Int) (l : Cs) (a d : Nat) : Int := if mayF acc (a : Int) (d : Int) = 0 then fgE l (a : Int) d else 2
theorem Same.fgt {acc : Int} {l : Cs} {C : List Ct} (h : Same acc l C) (a d : Nat) : Same acc (fgtL acc l a d) (fgtC acc C a d) := by
  unfold fgtL fgtC
  split
  · rename_i hm
    obtain ⟨ha, _, _⟩ := mayF_rng hm
    obtain ⟨c, hc⟩ : ∃ c, C[a]? = some c := ⟨_, List.getElem?_eq_getElem (by rw [h.len]; omega)⟩
    rw [hc]
    exact (h.forget hm hc).2
  · exact h
theorem forget_p (b : Nat) (ao : Option Addr) (cp mb : Nat) (acc : Int) (own : List Ky) (es : Es) (hE : EG es) (a d : Nat) (ha : a < 256) (w : World) (hw : OK w (fpL (bkL b ao cp mb acc own es)) (bkL b ao cp mb acc own es) w) :
    Fn Tryz.prog 8 [.pointer (some ⟨b, 0, none⟩), .agg #[.int .u8 (a : Int), .int .u8 (d : Int)]] (bkL b ao cp mb acc own es) w (fun es' : Es => EG es' ∧ pj es' = fgtL acc (pj es) a d) (fun _ => .int .i64 (fgtA acc (pj es) a d)) (fun es' => bkL b ao cp mb acc own es') := by
  unfold fgtL fgtA
  by_cases hm : mayF acc (a : Int) (d : Int) = 0
  · have hd4 := mayF_zero hm
    rw [if_pos hm, if_pos hm]
    refine Calls.mono (forget_any b ao cp mb acc own es hE (a : Int) (by omega) d (by omega) hm w hw) ?_
    rintro e w' ⟨es', ⟨h1, h2⟩, h3⟩
    exact ⟨es', ⟨h2, h1⟩, h3⟩
  · rw [if_neg hm, if_neg hm]
    refine Calls.mono (lift (c := ⟨Tryz.prog, none, 0, w, fpL (bkL b ao cp mb acc own es)⟩) (.cons .head .nil) (fun w' hw' => forget_bad b (.slice ao own.length cp) (.map (some mb)) acc (a : Int) (d : Int) (mayF_two hm) w' hw'.left.here) w hw) ?_
    rintro e w' ⟨_, _, h3, h4⟩
    exact ⟨es, ⟨hE, rfl⟩, h3, h4⟩
theorem rforget_p (b : Nat) (acc : Int) (ov : Value) (C : List Ct) (hC : COk C) (l : Cs) (hS : Same acc l C) (a d : Nat) (w : World) (hw : OK w (fpL [rbR b acc ov C]) [rbR b acc ov C] w) :
    Fn Tryz.prog 9 [.pointer (some ⟨b, 0, none⟩), .agg #[.int .u8 (a : Int), .int .u8 (d : Int)]] [rbR b acc ov C] w (fun _ : Unit => True) (fun _ => .int .i64 (fgtA acc l a d)) (fun _ => [rbR b acc ov (fgtC acc C a d)]) := by
  unfold fgtC fgtA
  by_cases hm : mayF acc (a : Int) (d : Int) = 0
  · obtain ⟨ha, _, _⟩ := mayF_rng hm
    obtain ⟨c, hc⟩ : ∃ c, C[a]? = some c := ⟨_, List.getElem?_eq_getElem (by rw [hC.1]; omega)⟩
    have h2 := (hS.forget hm hc).1
    rw [if_pos hm, if_pos hm, hc, h2]
    exact rforget_any b acc ov C hC a d hm c hc w hw
  · rw [if_neg hm, if_neg hm]
    exact rforget_bad b acc ov C (a : Int) (d : Int) (mayF_two hm) w hw
/-! ### Numbers -/
theorem numT_noB (acc : Int) (own : List Ky) (a : Int) (l : List Ky) : NoB (numT acc own a l) := by
  unfold numT
  split
  · exact fun x h => nomatch h
  · exact (numF_dig (digF_dig _ _) (digF_dig _ _)).noB
theorem verC_sp (l : Cs) (a : Int) (n : List Int) (h : NoB n) : verC l a (spacedF n) n = verC l a n n := by
  unfold verC
  rw [spaced_bare h, bare_of h]
theorem verE_sp (l : List Ky) (n : List Int) (h : NoB n) : verE l (spacedF n) n = verE l n n := by
  unfold verE
  rw [spaced_bare h, bare_of h]
theorem Du.textC (x : Du) : x.cells[35]? = some (.string x.t) := by
  unfold Du.cells
  rw [List.getElem?_cons_succ, List.getElem?_cons_succ, List.getElem?_cons_succ, List.getElem?_append_right (by rw [x.key.clen]; omega), x.key.clen]
  rfl
end Go.Proofs.YtcplbkbimpiioaaGreatDoor

namespace Go.Proofs.YtcplbkbimpiioaaGreatDoor
open Go Go.RowKit
theorem plays_no (m : Int) (acc : Int) (own : List Ky) (vk : Value) (l : List Du) (v : Value) (hno : 8 ≤ acc ∨ own.length < 1 ∨ 4 < own.length) (w : World) (hw : OK w (fpL [rdR vk 32 own.length (vcs kyV own), rdR v 36 l.length (vcs duV l), rdR mxV 1 1 [.int .i64 m]]) [rdR vk 32 own.length (vcs kyV own), rdR v 36 l.length (vcs duV l), rdR mxV 1 1 [.int .i64 m]] w) :
    Fn Tryz.prog 3 [.int .u8 acc, vk, v] [rdR vk 32 own.length (vcs kyV own), rdR v 36 l.length (vcs duV l), rdR mxV 1 1 [.int .i64 m]] w (fun _ : Unit => True) (fun _ => .bool true) (fun _ => []) := by
  obtain ⟨al, cl, rfl, hcl, hml⟩ := (hw.get (.tail .head) : Rd _ _ _ _ _).form
  obtain ⟨ak, ck, rfl, hck, hmk⟩ := (hw.get .head : Rd _ _ _ _ _).form
  refine enterF Tryz.func3 rfl Tryz.ntmps3 rfl hw ?_
  refine WC.seq ?_
  refine WC.region ?_
  refine WL.y (Yl.assign rfl) rfl ?_
  refine WL.nil ?_
  refine WC.seq ?_
  refine WC.seq ?_
  refine WC.region ?_
  refine WL.callC (xs := []) (cap := []) rfl rfl en4 (by repeat' constructor) (fun w hw => known_any m w (hw.src (A := []) (r := rdR mxV 1 1 [.int .i64 m]) RdOf.rd' (by repeat constructor)) hw.left.here) rfl ?_
  rintro ⟨⟩ -
  refine WL.y (Yl.not rfl) rfl ?_
  refine WL.know (t := 24) (b' := false) rfl (by first | rfl | (simp; done) | (simp; omega)) ?_
  refine WL.nil ?_
  refine WC.condF rfl (by first | rfl | (simp; done) | (simp; omega)) ?_
  refine WC.skip ?_
  refine WC.seq ?_
  refine WC.midX (α := Bool) (fun q => [(0, .int .u8 acc), (1, .slice ak own.length ck), (2, .slice al l.length cl), (32, .bool q)]) (fun _ => [rdR (.slice ak own.length ck) 32 own.length (vcs kyV own), rdR (.slice al l.length cl) 36 l.length (vcs duV l), rdR mxV 1 1 [.int .i64 m]]) (fun _ => True) ?_ ?_
  · refine WC.region ?_
    refine WL.y (Yl.move rfl) rfl ?_
    refine WL.y (Yl.len un22 rfl) rfl ?_
    refine WL.y (Yl.gtr rfl rfl) rfl ?_
    refine WL.y (Yl.move rfl) rfl ?_
    refine WL.both (t := 28) rfl (fun g28 => ?_) (fun g28 => ?_)
    · refine WL.off rfl rfl rfl rfl ?_
      refine WL.off rfl rfl rfl rfl ?_
      refine WL.off rfl rfl rfl rfl ?_
      refine WL.y (Yl.pickT rfl rfl) rfl ?_
      refine WL.nil ?_
      exact ⟨rfl, _, trivial, (by repeat' constructor), _, (by repeat' constructor)⟩
    · refine WL.on rfl rfl ?_
      refine WL.y (Yl.move rfl) rfl ?_
      refine WL.on rfl rfl ?_
      refine WL.y (Yl.len un23 rfl) rfl ?_
      refine WL.on rfl rfl ?_
      refine WL.y (Yl.gtr rfl rfl) rfl ?_
      refine WL.y (Yl.pickF rfl rfl) rfl ?_
      refine WL.nil ?_
      exact ⟨rfl, _, trivial, (by repeat' constructor), _, (by repeat' constructor)⟩
  · rintro q -
    refine WC.cond rfl (fun g32 => ?_) (fun g32 => ?_)
    · refine WC.seq ?_
      refine WC.region ?_
      refine WL.y (Yl.assign rfl) rfl ?_
      refine WL.nil ?_
      refine WC.ret ?_
      repeat (with_reducible (first | refine peelT ?_ | refine peelB ?_ | refine peelTX ?_ | refine peelBX ?_ | refine peelBN ?_ | refine peelBO rfl ?_))
      exact ret1 (.inr rfl) Tryz.results3 rfl fun w' h => ⟨(), trivial, rfl, h.sub (by repeat' constructor)⟩
    · refine WC.skip ?_
      refine WC.seq ?_
      refine WC.region ?_
      refine WL.y (Yl.move rfl) rfl ?_
      refine WL.y (Yl.move rfl) rfl ?_
      refine WL.callC (xs := [.tmp 34, .tmp 35]) (cap := []) rfl rfl en5 (by repeat' constructor) (fun w hw => new_no acc (.slice ak own.length ck) own.length hno ak ck rfl w hw.left.here) rfl ?_
      rintro ⟨⟩ -
      refine WL.y (Yl.move rfl) rfl ?_
      refine WL.y (Yl.extract rfl rfl) rfl ?_
      refine WL.y (Yl.extract rfl rfl) rfl ?_
      refine WL.y (Yl.assign rfl) rfl ?_
      refine WL.y (Yl.assign rfl) rfl ?_
      refine WL.nil ?_
      refine WC.seq ?_
      refine WC.midX (α := Unit) (fun _ => [(7, .pointer none), (8, .int .i64 2), (50, .bool true)]) (fun _ => [rdR (.slice ak own.length ck) 32 own.length (vcs kyV own), rdR (.slice al l.length cl) 36 l.length (vcs duV l), rdR mxV 1 1 [.int .i64 m]]) (fun _ => True) ?_ ?_
      · refine WC.region ?_
        refine WL.y (Yl.move rfl) rfl ?_
        refine WL.y (Yl.gtr rfl rfl) rfl ?_
        refine WL.y (Yl.move rfl) rfl ?_
        refine WL.both (t := 41) rfl (fun g41 => ?_) (fun g41 => ?_)
        · refine WL.off rfl rfl rfl rfl ?_
          refine WL.off rfl rfl rfl rfl ?_
          refine WL.off rfl rfl rfl rfl ?_
          refine WL.y (Yl.pickT rfl rfl) rfl ?_
          refine WL.y (Yl.move rfl) rfl ?_
          refine WL.off rfl rfl rfl rfl ?_
          refine WL.off rfl rfl rfl rfl ?_
          refine WL.off rfl rfl rfl rfl ?_
          refine WL.y (Yl.pickT rfl rfl) rfl ?_
          refine WL.say (t := 50) (v' := .bool true) rfl (by first | rfl | (exact congrArg Value.bool (decide_eq_true (by have h1 := of_decide_eq_false g41; have h2 := of_decide_eq_false g46; omega)))) ?_
          refine WL.nil ?_
          exact ⟨rfl, (), trivial, (by repeat' constructor), _, (by repeat' constructor)⟩
        · refine WL.on rfl rfl ?_
          refine WL.y (Yl.move rfl) rfl ?_
          refine WL.on rfl rfl ?_
          refine WL.y (Yl.len un22 rfl) rfl ?_
          refine WL.on rfl rfl ?_
          refine WL.y (Yl.lss rfl rfl) rfl ?_
          refine WL.y (Yl.pickF rfl rfl) rfl ?_
          refine WL.y (Yl.move rfl) rfl ?_
          refine WL.both (t := 46) rfl (fun g46 => ?_) (fun g46 => ?_)
          · refine WL.off rfl rfl rfl rfl ?_
            refine WL.off rfl rfl rfl rfl ?_
            refine WL.off rfl rfl rfl rfl ?_
            refine WL.y (Yl.pickT rfl rfl) rfl ?_
            refine WL.say (t := 50) (v' := .bool true) rfl (by first | rfl | (exact congrArg Value.bool (decide_eq_true (by have h1 := of_decide_eq_false g41; have h2 := of_decide_eq_false g46; omega)))) ?_
            refine WL.nil ?_
            exact ⟨rfl, (), trivial, (by repeat' constructor), _, (by repeat' constructor)⟩
          · refine WL.on rfl rfl ?_
            refine WL.y (Yl.move rfl) rfl ?_
            refine WL.on rfl rfl ?_
            refine WL.y (Yl.len un22 rfl) rfl ?_
            refine WL.on rfl rfl ?_
            refine WL.y (Yl.gtr rfl rfl) rfl ?_
            refine WL.y (Yl.pickF rfl rfl) rfl ?_
            refine WL.say (t := 50) (v' := .bool true) rfl (by first | rfl | (exact congrArg Value.bool (decide_eq_true (by have h1 := of_decide_eq_false g41; have h2 := of_decide_eq_false g46; omega)))) ?_
            refine WL.nil ?_
            exact ⟨rfl, (), trivial, (by repeat' constructor), _, (by repeat' constructor)⟩
      · rintro ⟨⟩ -
        refine WC.condT rfl (by first | rfl | (simp; done) | (simp; omega)) ?_
        refine WC.seq ?_
        refine WC.region ?_
        refine WL.y (Yl.move rfl) rfl ?_
        refine WL.y (Yl.nilEq un25 rfl rfl) rfl ?_
        refine WL.know (t := 52) (b' := true) rfl (by first | rfl | (simp; done) | (simp; omega)) ?_
        refine WL.y (Yl.move rfl) rfl ?_
        refine WL.on rfl rfl ?_
        refine WL.y (Yl.move rfl) rfl ?_
        refine WL.on rfl rfl ?_
        refine WL.y (Yl.eql rfl rfl) rfl ?_
        refine WL.know (t := 55) (b' := true) rfl (by first | rfl | (simp; done) | (simp; omega)) ?_
        refine WL.y (Yl.pickT rfl rfl) rfl ?_
        refine WL.y (Yl.assign rfl) rfl ?_
        refine WL.nil ?_
        refine WC.ret ?_
        repeat (with_reducible (first | refine peelT ?_ | refine peelB ?_ | refine peelTX ?_ | refine peelBX ?_ | refine peelBN ?_ | refine peelBO rfl ?_))
        exact ret1 (.inr rfl) Tryz.results3 rfl fun w' h => ⟨(), trivial, rfl, h.sub (by repeat' constructor)⟩
/-- How far it went: the program's book, the document's. -/
structure PSt where
  b : Nat
  ao : Option Addr
  cp : Nat
  mb : Nat
  es : Es
  C : List Ct
set_option maxHeartbeats 6400000 in
set_option maxRecDepth 100000 in
theorem plays_yes (m : Int) (acc : Int) (own : List Ky) (vk : Value) (l : List Du) (v : Value) (hG : ∀ x ∈ l, x.ok) (ha : 0 ≤ acc ∧ acc < 8) (ho : 1 ≤ own.length ∧ own.length ≤ 4) (w : World) (hw : OK w (fpL [rdR vk 32 own.length (vcs kyV own), rdR v 36 l.length (vcs duV l), rdR mxV 1 1 [.int .i64 m]]) [rdR vk 32 own.length (vcs kyV own), rdR v 36 l.length (vcs duV l), rdR mxV 1 1 [.int .i64 m]] w) :
    Fn Tryz.prog 3 [.int .u8 acc, vk, v] [rdR vk 32 own.length (vcs kyV own), rdR v 36 l.length (vcs duV l), rdR mxV 1 1 [.int .i64 m]] w (fun _ : Unit => True) (fun _ => .bool true) (fun _ => []) := by
  obtain ⟨al, cl, rfl, hcl, hml⟩ := (hw.get (.tail .head) : Rd _ _ _ _ _).form
  obtain ⟨ak, ck, rfl, hck, hmk⟩ := (hw.get .head : Rd _ _ _ _ _).form
  have hSl := setK_len own
  have hSn := setK_ne (l := own) (by omega)
  have hSS := setK_idem own
  have hN := numT_set acc own
  have hnew := fun w h1 h2 => new_any acc (.slice ak own.length ck) own ha ho w h1 h2
  have hali := fun b ao cp mb es hE rb oa oc C hS w h => alike_any b ao cp mb acc own (by omega) (by omega) es hE rb oa oc C ⟨ha.1, by omega⟩ hS w h
  obtain ⟨S, hS0⟩ : ∃ S, setK own = S := ⟨_, rfl⟩
  rw [hS0] at hSl hSn hSS hN
  simp only [hS0] at hnew hali
  refine enterF Tryz.func3 rfl Tryz.ntmps3 rfl hw ?_
  refine WC.seq ?_
  refine WC.region ?_
  refine WL.y (Yl.assign rfl) rfl ?_
  refine WL.nil ?_
  refine WC.seq ?_
  refine WC.seq ?_
  refine WC.region ?_
  refine WL.callC (xs := []) (cap := []) rfl rfl en4 (by repeat' constructor) (fun w hw => known_any m w (hw.src (A := []) (r := rdR mxV 1 1 [.int .i64 m]) RdOf.rd' (by repeat constructor)) hw.left.here) rfl ?_
  rintro ⟨⟩ -
  refine WL.y (Yl.not rfl) rfl ?_
  refine WL.know (t := 24) (b' := false) rfl (by first | rfl | (simp; done) | (simp; omega)) ?_
  refine WL.nil ?_
  refine WC.condF rfl (by first | rfl | (simp; done) | (simp; omega)) ?_
  refine WC.skip ?_
  refine WC.seq ?_
  refine WC.seq ?_
  refine WC.region ?_
  refine WL.y (Yl.move rfl) rfl ?_
  refine WL.y (Yl.len un22 rfl) rfl ?_
  refine WL.y (Yl.gtr rfl rfl) rfl ?_
  refine WL.know (t := 27) (b' := false) rfl (by first | rfl | (simp; done) | (simp; omega)) ?_
  refine WL.y (Yl.move rfl) rfl ?_
  refine WL.on rfl rfl ?_
  refine WL.y (Yl.move rfl) rfl ?_
  refine WL.on rfl rfl ?_
  refine WL.y (Yl.len un23 rfl) rfl ?_
  refine WL.on rfl rfl ?_
  refine WL.y (Yl.gtr rfl rfl) rfl ?_
  refine WL.y (Yl.pickF rfl rfl) rfl ?_
  refine WL.nil ?_
  refine WC.cond rfl (fun g32 => ?_) (fun g32 => ?_)
  · refine WC.seq ?_
    refine WC.region ?_
    refine WL.y (Yl.assign rfl) rfl ?_
    refine WL.nil ?_
    refine WC.ret ?_
    repeat (with_reducible (first | refine peelT ?_ | refine peelB ?_ | refine peelTX ?_ | refine peelBX ?_ | refine peelBN ?_ | refine peelBO rfl ?_))
    exact ret1 (.inr rfl) Tryz.results3 rfl fun w' h => ⟨(), trivial, rfl, h.sub (by repeat' constructor)⟩
  · refine WC.skip ?_
    refine WC.seq ?_
    refine WC.region ?_
    refine WL.y (Yl.move rfl) rfl ?_
    refine WL.y (Yl.move rfl) rfl ?_
    refine WL.callC (xs := [.tmp 34, .tmp 35]) (cap := []) rfl rfl en5 (by repeat' constructor) (fun w hw => hnew w (hw.src (A := []) (r := rdR (.slice ak own.length ck) 32 own.length (vcs kyV own)) RdOf.rd' (by repeat constructor)) hw.left.here) rfl ?_
    rintro ⟨b, ⟨ao, cp⟩, mb⟩ -
    dsimp only [List.cons_append, List.nil_append]
    refine WL.y (Yl.move rfl) rfl ?_
    refine WL.y (Yl.extract rfl rfl) rfl ?_
    refine WL.y (Yl.extract rfl rfl) rfl ?_
    refine WL.y (Yl.assign rfl) rfl ?_
    refine WL.y (Yl.assign rfl) rfl ?_
    refine WL.nil ?_
    refine WC.seq ?_
    refine WC.seq ?_
    refine WC.region ?_
    refine WL.y (Yl.move rfl) rfl ?_
    refine WL.y (Yl.gtr rfl rfl) rfl ?_
    refine WL.know (t := 40) (b' := false) rfl (by first | rfl | (simp; done) | (simp; omega)) ?_
    refine WL.y (Yl.move rfl) rfl ?_
    refine WL.on rfl rfl ?_
    refine WL.y (Yl.move rfl) rfl ?_
    refine WL.on rfl rfl ?_
    refine WL.y (Yl.len un22 rfl) rfl ?_
    refine WL.on rfl rfl ?_
    refine WL.y (Yl.lss rfl rfl) rfl ?_
    refine WL.know (t := 44) (b' := false) rfl (by first | rfl | (simp; done) | (simp; omega)) ?_
    refine WL.y (Yl.pickF rfl rfl) rfl ?_
    refine WL.y (Yl.move rfl) rfl ?_
    refine WL.on rfl rfl ?_
    refine WL.y (Yl.move rfl) rfl ?_
    refine WL.on rfl rfl ?_
    refine WL.y (Yl.len un22 rfl) rfl ?_
    refine WL.on rfl rfl ?_
    refine WL.y (Yl.gtr rfl rfl) rfl ?_
    refine WL.know (t := 49) (b' := false) rfl (by first | rfl | (simp; done) | (simp; omega)) ?_
    refine WL.y (Yl.pickF rfl rfl) rfl ?_
    refine WL.nil ?_
    refine WC.condF rfl (by first | rfl | (simp; done) | (simp; omega)) ?_
    refine WC.skip ?_
    refine WC.seq ?_
    refine WC.region ?_
    refine WL.y (Yl.move rfl) rfl ?_
    refine WL.to (To.buildSlice (vs := []) un22 zs32 rfl rfl (by simp [Value.cells]) (by decide) (by decide)) rfl ?_
    intro b58
    rw [show flat [] = [] from rfl]
    refine WL.view (fun w h => h.blkOwn (b := b58) (size := 32) (n := 0) (by repeat constructor) (by unfold maxLen; omega) rfl) ?_
    refine WL.y (Yl.move rfl) rfl ?_
    refine WL.to (To.append sl22 rfl rfl (by repeat constructor) (Reads.of (r := rdR (.slice ak own.length ck) 32 own.length (vcs kyV own)) RdOf.rd' (by repeat constructor)) (vtK.ones _) (Nat.zero_add _) (List.nil_append _) (by unfold maxLen; omega) (by omega)) rfl ?_
    rintro ⟨⟨ao60, c60⟩, hc60⟩
    dsimp only at hc60 ⊢
    refine WL.y (Yl.build rfl (cs := rbC acc (.slice ao60 own.length c60) (List.replicate 8 Ct.zero)) (fun _ => by kernel_rfl)) rfl ?_
    refine WL.to (To.box (cs := rbC acc (.slice ao60 own.length c60) (List.replicate 8 Ct.zero)) rfl rfl) rfl ?_
    intro b62
    refine WL.y (Yl.assign rfl) rfl ?_
    refine WL.nil ?_
    refine WC.seq ?_
    refine WC.seq ?_
    refine WC.region ?_
    refine WL.y (Yl.move rfl) rfl ?_
    refine WL.y (Yl.len un23 rfl) rfl ?_
    refine WL.y (Yl.move rfl) rfl ?_
    refine WL.nil ?_
    refine WC.block ?_
    have hl60 : l.length ≤ 60 := by
      have := of_decide_eq_false g32
      omega
    refine WC.loop (α := Nat × PSt) (fun p => [(7, .pointer (some ⟨p.2.b, 0, none⟩)), (9, .pointer (some ⟨b62, 0, none⟩)), (63, .slice al l.length cl), (64, .int .i64 (l.length : Int)), (65, .int .i64 (p.1 : Int))]) (fun p => rbR b62 acc (.slice ao60 own.length c60) p.2.C :: (bkL p.2.b p.2.ao p.2.cp p.2.mb acc S p.2.es ++ [rwK (.slice ao60 own.length c60) own.length own, rdR (.slice ak own.length ck) 32 own.length (vcs kyV own), rdR (.slice al l.length cl) 36 l.length (vcs duV l), rdR mxV 1 1 [.int .i64 m]])) (fun p => p.1 ≤ l.length ∧ EG p.2.es ∧ Same acc (pj p.2.es) p.2.C) (fun p => l.length - p.1) (0, ⟨b, ao, cp, mb, [], List.replicate 8 Ct.zero⟩) ⟨Nat.zero_le _, EG.nil, Same.init acc⟩ ⟨(by repeat' constructor), _, (by repeat' constructor)⟩ ?_
    clear b ao cp mb
    rintro ⟨i, b, ao, cp, mb, es, C⟩ ⟨hi, hE, hS⟩
    dsimp only at hi hE hS ⊢
    dsimp only [List.cons_append, List.nil_append]
    refine WC.seq ?_
    refine WC.region ?_
    refine WL.y (Yl.lss rfl rfl) rfl ?_
    refine WL.nil ?_
    refine WC.seq ?_
    refine WC.condD rfl (fun g66 => ?_) (fun g66 => ?_)
    · refine WC.skip ?_
      refine WC.seq ?_
      refine WC.block ?_
      refine WC.seq ?_
      refine WC.region ?_
      have hil : i < l.length := by omega
      obtain ⟨x, hx0⟩ : ∃ x, l[i]? = some x := ⟨_, List.getElem?_eq_getElem hil⟩
      have hxo : x.ok := hG x (List.mem_of_getElem? hx0)
      obtain ⟨xk, xa, xd, key, xt⟩ := x
      obtain ⟨a, rfl⟩ : ∃ a : Nat, xa = (a : Int) := Int.eq_ofNat_of_zero_le hxo.a.1
      obtain ⟨d, rfl⟩ : ∃ d : Nat, xd = (d : Int) := Int.eq_ofNat_of_zero_le hxo.d.1
      obtain ⟨ts, hts, rfl⟩ := nums_of xt
      have hka : a < 256 := by have := hxo.a.2; dsimp only at this; omega
      have hC := hS.cok
      have hK4 := hS.kle a
      have hky := hS.rkys a
      have hst := hS.rst a
      refine WL.y (Yl.index un23 sz42 rfl rfl (Reads.of (r := rdR (.slice al l.length cl) 36 l.length (vcs duV l)) RdOf.rd' (by repeat constructor)) rfl (by omega)) rfl ?_
      refine WL.y (Yl.loadV (j := i) (u := (⟨xk, (a : Int), (d : Int), key, strOfNums ts⟩ : Du)) vtDu (fun _ _ => trivial) rfl (Reads.of (r := rdR (.slice al l.length cl) 36 l.length (vcs duV l)) RdOf.rd' (by repeat constructor)) rfl hx0) rfl ?_
      refine WL.to (To.alloc (cs := Du.zero.cells) zr42 rfl) rfl ?_
      intro b11
      refine WL.sto (Sto.agg sz42 rfl rfl (by repeat constructor) (Du.ones (⟨xk, (a : Int), (d : Int), key, strOfNums ts⟩ : Du)) (Du.clen (⟨xk, (a : Int), (d : Int), key, strOfNums ts⟩ : Du)) (by rfl) (putAll rfl)) (fun _ h => nomatch h) ?_
      refine WL.nil ?_
      refine WC.seq ?_
      refine WC.seq ?_
      refine WC.region ?_
      refine WL.y (Yl.field fo42_3 rfl) rfl ?_
      refine WL.y (Yl.load on9 rfl (by repeat constructor) (Du.textC (⟨xk, (a : Int), (d : Int), key, strOfNums ts⟩ : Du))) rfl ?_
      refine WL.y (Yl.lenT un9 rfl) rfl ?_
      refine WL.y (Yl.gtr rfl rfl) rfl ?_
      refine WL.nil ?_
      refine WC.condD rfl (fun g72 => ?_) (fun g72 => ?_)
      · refine WC.seq ?_
        refine WC.region ?_
        refine WL.y (Yl.assign rfl) rfl ?_
        refine WL.nil ?_
        refine WC.ret ?_
        repeat (with_reducible (first | refine peelT ?_ | refine peelB ?_ | refine peelTX ?_ | refine peelBX ?_ | refine peelBN ?_ | refine peelBO rfl ?_))
        exact ret1 (.inr rfl) Tryz.results3 rfl fun w' h => ⟨(), trivial, rfl, h.sub (by repeat' constructor)⟩
      · refine WC.skip ?_
        refine WC.seq ?_
        refine WC.region ?_
        refine WL.y (Yl.assign rfl) rfl ?_
        refine WL.nil ?_
        refine WC.midX (α := PSt) (fun p => [(7, .pointer (some ⟨p.b, 0, none⟩)), (9, .pointer (some ⟨b62, 0, none⟩)), (63, .slice al l.length cl), (64, .int .i64 (l.length : Int)), (12, .bool true), (65, .int .i64 (i : Int))]) (fun p => rbR b62 acc (.slice ao60 own.length c60) p.C :: (bkL p.b p.ao p.cp p.mb acc S p.es ++ [rwK (.slice ao60 own.length c60) own.length own, rdR (.slice ak own.length ck) 32 own.length (vcs kyV own), rdR (.slice al l.length cl) 36 l.length (vcs duV l), rdR mxV 1 1 [.int .i64 m]])) (fun p => EG p.es ∧ Same acc (pj p.es) p.C) ?_ ?_
        · refine WC.seq ?_
          refine WC.region ?_
          refine WL.y (Yl.field fo42_0 rfl) rfl ?_
          refine WL.y (Yl.load on5 rfl (by repeat constructor) (by rfl)) rfl ?_
          refine WL.nil ?_
          refine WC.block ?_
          refine WC.seq ?_
          refine WC.region ?_
          refine WL.y (Yl.eql rfl rfl) rfl ?_
          refine WL.y (Yl.assign rfl) rfl ?_
          refine WL.nil ?_
          refine WC.condD rfl (fun g88 => ?_) (fun g88 => ?_)
          · refine WC.seq ?_
            refine WC.region ?_
            refine WL.y (Yl.move rfl) rfl ?_
            refine WL.y (Yl.field fo42_1 rfl) rfl ?_
            refine WL.y (Yl.loadN (T := 42) (cs := ((⟨xk, (a : Int), (d : Int), key, strOfNums ts⟩ : Du)).cells) (cs' := [.int .u8 (a : Int), .int .u8 (d : Int)]) ag40 rfl (by repeat constructor) (Nat.ble_eq_true_of_le (by rw [Du.clen]; omega)) rfl) rfl ?_
            refine WL.y (Yl.field fo42_2 rfl) rfl ?_
            refine WL.y (Yl.loadN (T := 42) (cs := ((⟨xk, (a : Int), (d : Int), key, strOfNums ts⟩ : Du)).cells) (cs' := key.cells) ag32 rfl (by repeat constructor) (Nat.ble_eq_true_of_le (by rw [Du.clen]; omega)) (Du.keyC (⟨xk, (a : Int), (d : Int), key, strOfNums ts⟩ : Du))) rfl ?_
            refine WL.callC (xs := [.tmp 91, .tmp 93, .tmp 95]) (cap := []) rfl rfl en6 (by repeat' constructor) (fun w hw => learn_p b ao cp mb acc S es hE a d hka key w hw.left.here) rfl ?_
            rintro es' ⟨hE', hP'⟩
            dsimp only [List.cons_append, List.nil_append]
            refine WL.y (Yl.move rfl) rfl ?_
            refine WL.y (Yl.extract rfl rfl) rfl ?_
            refine WL.y (Yl.extract rfl rfl) rfl ?_
            refine WL.y (Yl.assign rfl) rfl ?_
            refine WL.y (Yl.assign rfl) rfl ?_
            refine WL.nil ?_
            refine WC.seq ?_
            refine WC.region ?_
            refine WL.y (Yl.move rfl) rfl ?_
            refine WL.y (Yl.field fo42_1 rfl) rfl ?_
            refine WL.y (Yl.loadN (T := 42) (cs := ((⟨xk, (a : Int), (d : Int), key, strOfNums ts⟩ : Du)).cells) (cs' := [.int .u8 (a : Int), .int .u8 (d : Int)]) ag40 rfl (by repeat constructor) (Nat.ble_eq_true_of_le (by rw [Du.clen]; omega)) rfl) rfl ?_
            refine WL.y (Yl.field fo42_2 rfl) rfl ?_
            refine WL.y (Yl.loadN (T := 42) (cs := ((⟨xk, (a : Int), (d : Int), key, strOfNums ts⟩ : Du)).cells) (cs' := key.cells) ag32 rfl (by repeat constructor) (Nat.ble_eq_true_of_le (by rw [Du.clen]; omega)) (Du.keyC (⟨xk, (a : Int), (d : Int), key, strOfNums ts⟩ : Du))) rfl ?_
            refine WL.callC (xs := [.tmp 100, .tmp 102, .tmp 104]) (cap := []) rfl rfl en7 (by repeat' constructor) (fun w hw => rlearn_p b62 acc (.slice ao60 own.length c60) C hC (pj es) hS a d key w hw.left.here) rfl ?_
            rintro ⟨⟩ -
            dsimp only [List.cons_append, List.nil_append]
            refine WL.y (Yl.move rfl) rfl ?_
            refine WL.y (Yl.extract rfl rfl) rfl ?_
            refine WL.y (Yl.extract rfl rfl) rfl ?_
            refine WL.y (Yl.assign rfl) rfl ?_
            refine WL.y (Yl.assign rfl) rfl ?_
            refine WL.nil ?_
            refine WC.region ?_
            refine WL.y (Yl.move rfl) rfl ?_
            refine WL.y (Yl.move rfl) rfl ?_
            refine WL.y (Yl.bEq un4 rfl rfl) rfl ?_
            refine WL.know (t := 110) (b' := true) rfl (by simp) ?_
            refine WL.y (Yl.move rfl) rfl ?_
            refine WL.on rfl rfl ?_
            refine WL.y (Yl.move rfl) rfl ?_
            refine WL.on rfl rfl ?_
            refine WL.y (Yl.move rfl) rfl ?_
            refine WL.on rfl rfl ?_
            refine WL.y (Yl.eql rfl rfl) rfl ?_
            refine WL.know (t := 114) (b' := true) rfl (by simp) ?_
            refine WL.y (Yl.pickT rfl rfl) rfl ?_
            refine WL.y (Yl.assign rfl) rfl ?_
            refine WL.nil ?_
            exact ⟨rfl, ⟨b, ao, cp, mb, es', lrnC acc C a d key⟩, ⟨hE', by dsimp only; rw [hP']; exact hS.lrn a d key⟩, (by repeat' constructor), _, (by repeat' constructor)⟩
          · refine WC.seq ?_
            refine WC.region ?_
            refine WL.y (Yl.eql rfl rfl) rfl ?_
            refine WL.y (Yl.assign rfl) rfl ?_
            refine WL.nil ?_
            refine WC.condD rfl (fun g116 => ?_) (fun g116 => ?_)
            · refine WC.drawAny (Hs := [blkR b11 42 ((⟨xk, (a : Int), (d : Int), key, strOfNums ts⟩ : Du)).cells]) mixed (by kernel_rfl) ⟨_, (by repeat' constructor)⟩ ?_
              refine WD.tk 0 rfl (by kernel_rfl) rfl rfl (Yl.move rfl) rfl ?_
              refine WD.tk 1 rfl (by kernel_rfl) rfl rfl (Yl.field fo42_1 rfl) rfl ?_
              refine WD.tk 2 rfl (by kernel_rfl) rfl rfl (Yl.loadN (T := 42) (cs := ((⟨xk, (a : Int), (d : Int), key, strOfNums ts⟩ : Du)).cells) (cs' := [.int .u8 (a : Int), .int .u8 (d : Int)]) ag40 rfl (by repeat constructor) (Nat.ble_eq_true_of_le (by rw [Du.clen]; omega)) rfl) rfl ?_
              refine WD.tk 4 rfl (by kernel_rfl) rfl rfl (Yl.move rfl) rfl ?_
              refine WD.tk 5 rfl (by kernel_rfl) rfl rfl (Yl.field fo42_1 rfl) rfl ?_
              refine WD.tk 6 rfl (by kernel_rfl) rfl rfl (Yl.loadN (T := 42) (cs := ((⟨xk, (a : Int), (d : Int), key, strOfNums ts⟩ : Du)).cells) (cs' := [.int .u8 (a : Int), .int .u8 (d : Int)]) ag40 rfl (by repeat constructor) (Nat.ble_eq_true_of_le (by rw [Du.clen]; omega)) rfl) rfl ?_
              refine WD.one 3 (by kernel_rfl) ?_
              refine WO.callC (xs := [.tmp 118, .tmp 120]) (cap := []) rfl .no rfl rfl en8 (by repeat' constructor) (fun w hw => forget_p b ao cp mb acc S es hE a d hka w hw.left.here) rfl (fun _ => ⟨_, (by repeat' constructor)⟩) ?_
              rintro es' ⟨hE', hP'⟩
              refine WD.one 7 (by kernel_rfl) ?_
              refine WO.callC (xs := [.tmp 122, .tmp 124]) (cap := []) rfl .no rfl rfl en9 (by repeat' constructor) (fun w hw => rforget_p b62 acc (.slice ao60 own.length c60) C hC (pj es) hS a d w hw.left.here) rfl (fun _ => ⟨_, (by repeat' constructor)⟩) ?_
              rintro ⟨⟩ -
              refine WD.tk 8 rfl (by kernel_rfl) rfl rfl (Yl.eql rfl rfl) rfl ?_
              refine WD.know (t := 126) (b' := true) rfl (by simp) ?_
              refine WD.tk 9 rfl (by kernel_rfl) rfl rfl (Yl.assign rfl) rfl ?_
              refine WD.done (by kernel_rfl) ?_
              exact ⟨rfl, ⟨b, ao, cp, mb, es', fgtC acc C a d⟩, ⟨hE', by dsimp only; rw [hP']; exact hS.fgt a d⟩, (by repeat' constructor), _, (by repeat' constructor)⟩
            · refine WC.seq ?_
              refine WC.region ?_
              refine WL.y (Yl.eql rfl rfl) rfl ?_
              refine WL.y (Yl.assign rfl) rfl ?_
              refine WL.nil ?_
              refine WC.condD rfl (fun g127 => ?_) (fun g127 => ?_)
              · refine WC.drawAny (Hs := [blkR b11 42 ((⟨xk, (a : Int), (d : Int), key, strOfNums ts⟩ : Du)).cells, rdR mxV 1 1 [.int .i64 m]]) mixed (by kernel_rfl) ⟨_, (by repeat' constructor)⟩ ?_
                refine WD.tk 0 rfl (by kernel_rfl) rfl rfl (Yl.move rfl) rfl ?_
                refine WD.tk 1 rfl (by kernel_rfl) rfl rfl (Yl.field fo42_1 rfl) rfl ?_
                refine WD.tk 2 rfl (by kernel_rfl) rfl rfl (Yl.field fo40_0 rfl) rfl ?_
                refine WD.tk 3 rfl (by kernel_rfl) rfl rfl (Yl.load on5 rfl (by repeat constructor) (by rfl)) rfl ?_
                refine WD.tk 4 rfl (by kernel_rfl) rfl rfl (Yl.field fo42_3 rfl) rfl ?_
                refine WD.tk 5 rfl (by kernel_rfl) rfl rfl (Yl.load on9 rfl (by repeat constructor) (Du.textC (⟨xk, (a : Int), (d : Int), key, strOfNums ts⟩ : Du))) rfl ?_
                refine WD.tk 7 rfl (by kernel_rfl) rfl rfl (Yl.move rfl) rfl ?_
                refine WD.tk 8 rfl (by kernel_rfl) rfl rfl (Yl.field fo42_1 rfl) rfl ?_
                refine WD.tk 9 rfl (by kernel_rfl) rfl rfl (Yl.field fo40_0 rfl) rfl ?_
                refine WD.tk 10 rfl (by kernel_rfl) rfl rfl (Yl.load on5 rfl (by repeat constructor) (by rfl)) rfl ?_
                refine WD.tk 11 rfl (by kernel_rfl) rfl rfl (Yl.field fo42_3 rfl) rfl ?_
                refine WD.tk 12 rfl (by kernel_rfl) rfl rfl (Yl.load on9 rfl (by repeat constructor) (Du.textC (⟨xk, (a : Int), (d : Int), key, strOfNums ts⟩ : Du))) rfl ?_
                refine WD.one 6 (by kernel_rfl) ?_
                refine WO.callC (xs := [.tmp 129, .tmp 132, .tmp 134]) (cap := []) rfl .no rfl rfl en10 (by repeat' constructor) (fun w hw => verify_any m b ao cp mb acc S (by omega) es hE (a : Int) (by omega) ts hts (by omega) w (hw.src (r := rdR mxV 1 1 [.int .i64 m]) RdOf.rd' (by repeat constructor)) hw.left.here) rfl (fun _ => ⟨_, (by repeat' constructor)⟩) ?_
                rintro es' ⟨hP', hE'⟩
                refine WD.one 13 (by kernel_rfl) ?_
                refine WO.callC (xs := [.tmp 136, .tmp 139, .tmp 141]) (cap := []) rfl .no rfl rfl en11 (by repeat' constructor) (fun w hw => rverify_any b62 ao60 c60 acc (by omega) own (by omega) C hC a hka ts hts (by omega) w hw.left.here) rfl (fun _ => ⟨_, (by repeat' constructor)⟩) ?_
                rintro ⟨⟩ -
                refine WD.tk 14 rfl (by kernel_rfl) rfl rfl (Yl.eql rfl rfl) rfl ?_
                refine WD.know (t := 143) (b' := true) rfl (by rw [hN, hky]; simp) ?_
                refine WD.tk 15 rfl (by kernel_rfl) rfl rfl (Yl.assign rfl) rfl ?_
                refine WD.done (by kernel_rfl) ?_
                exact ⟨rfl, ⟨b, ao, cp, mb, es', rverC C a ts (numT acc own (a : Int) (rkysAt C a))⟩, ⟨hE', by dsimp only; rw [hP', hN, hky]; exact hS.ver a ts _⟩, (by repeat' constructor), _, (by repeat' constructor)⟩
              · refine WC.seq ?_
                refine WC.region ?_
                refine WL.y (Yl.eql rfl rfl) rfl ?_
                refine WL.y (Yl.assign rfl) rfl ?_
                refine WL.nil ?_
                refine WC.condD rfl (fun g144 => ?_) (fun g144 => ?_)
                · refine WC.seq ?_
                  refine WC.region ?_
                  refine WL.y (Yl.move rfl) rfl ?_
                  refine WL.y (Yl.field fo42_1 rfl) rfl ?_
                  refine WL.y (Yl.field fo40_0 rfl) rfl ?_
                  refine WL.y (Yl.load on5 rfl (by repeat constructor) (by rfl)) rfl ?_
                  refine WL.callC (xs := [.tmp 147, .tmp 150]) (cap := []) rfl rfl en12 (by repeat' constructor) (fun w hw => numB_any b ao cp mb acc S (by omega) es hE (a : Int) (by omega) w hw.left.here) rfl ?_
                  rintro ⟨⟩ -
                  dsimp only [List.cons_append, List.nil_append]
                  refine WL.y (Yl.move rfl) rfl ?_
                  refine WL.y (Yl.extract rfl rfl) rfl ?_
                  refine WL.y (Yl.extract rfl rfl) rfl ?_
                  refine WL.y (Yl.assign rfl) rfl ?_
                  refine WL.y (Yl.assign rfl) rfl ?_
                  refine WL.nil ?_
                  refine WC.seq ?_
                  refine WC.region ?_
                  refine WL.y (Yl.move rfl) rfl ?_
                  refine WL.y (Yl.field fo42_1 rfl) rfl ?_
                  refine WL.y (Yl.field fo40_0 rfl) rfl ?_
                  refine WL.y (Yl.load on5 rfl (by repeat constructor) (by rfl)) rfl ?_
                  refine WL.callC (xs := [.tmp 155, .tmp 158]) (cap := []) rfl rfl en13 (by repeat' constructor) (fun w hw => rnumB_any b62 ao60 c60 acc (by omega) own (by omega) C hC a hka w hw.left.here) rfl ?_
                  rintro ⟨⟩ -
                  dsimp only [List.cons_append, List.nil_append]
                  refine WL.y (Yl.move rfl) rfl ?_
                  refine WL.y (Yl.extract rfl rfl) rfl ?_
                  refine WL.y (Yl.extract rfl rfl) rfl ?_
                  refine WL.y (Yl.assign rfl) rfl ?_
                  refine WL.y (Yl.assign rfl) rfl ?_
                  refine WL.nil ?_
                  rw [hN, hky]
                  have hnl := numT_len acc own (a : Int) (kysAt (pj es) (a : Int))
                  have hnb := numT_noB acc own (a : Int) (kysAt (pj es) (a : Int))
                  have hny := numT_by acc own (a : Int) (kysAt (pj es) (a : Int))
                  have hvp := fun ts h1 h2 w h3 h4 => verify_any m b ao cp mb acc S (by omega) es hE (a : Int) (by omega) ts h1 h2 w h3 h4
                  have hvr := fun ts h1 h2 w h3 => rverify_any b62 ao60 c60 acc (by omega) own (by omega) C hC a hka ts h1 h2 w h3
                  have hvs := fun ts => hS.ver a ts (numT acc own (a : Int) (kysAt (pj es) (a : Int)))
                  simp only [hN, hky] at hvp hvr
                  obtain ⟨N, hNN⟩ : ∃ N, numT acc own (a : Int) (kysAt (pj es) (a : Int)) = N := ⟨_, rfl⟩
                  simp only [hNN] at hnl hnb hny hvp hvr hvs ⊢
                  have hsl := spacedF_len N
                  refine WC.drawAny (Hs := [blkR b11 42 ((⟨xk, (a : Int), (d : Int), key, strOfNums ts⟩ : Du)).cells, rdR mxV 1 1 [.int .i64 m]]) mixed (by kernel_rfl) ⟨_, (by repeat' constructor)⟩ ?_
                  refine WD.tk 0 rfl (by kernel_rfl) rfl rfl (Yl.move rfl) rfl ?_
                  refine WD.tk 1 rfl (by kernel_rfl) rfl rfl (Yl.move rfl) rfl ?_
                  refine WD.tk 2 rfl (by kernel_rfl) rfl rfl (Yl.sEqT hny hny rfl rfl) rfl ?_
                  refine WD.know (t := 164) (b' := true) rfl (by simp) ?_
                  refine WD.tk 3 rfl (by kernel_rfl) rfl rfl (Yl.move rfl) rfl ?_
                  refine WD.takeOn 4 rfl (by kernel_rfl) (by kernel_rfl) (by kernel_rfl) rfl rfl rfl rfl (Yl.move rfl) rfl ?_
                  refine WD.takeOn 5 rfl (by kernel_rfl) (by kernel_rfl) (by kernel_rfl) rfl rfl rfl rfl (Yl.eql rfl rfl) rfl ?_
                  refine WD.takeOn 6 rfl (by kernel_rfl) (by kernel_rfl) (by kernel_rfl) rfl rfl rfl rfl (Yl.move rfl) rfl ?_
                  refine WD.takeOn 7 rfl (by kernel_rfl) (by kernel_rfl) (by kernel_rfl) rfl rfl rfl rfl (Yl.bEq un4 rfl rfl) rfl ?_
                  refine WD.know (t := 169) (b' := true) rfl (by unfold numE; split <;> simp_all) ?_
                  refine WD.tk 8 rfl (by kernel_rfl) rfl rfl (Yl.pickT rfl rfl) rfl ?_
                  refine WD.tk 9 rfl (by kernel_rfl) rfl rfl (Yl.move rfl) rfl ?_
                  refine WD.takeOn 10 rfl (by kernel_rfl) (by kernel_rfl) (by kernel_rfl) rfl rfl rfl rfl (Yl.move rfl) rfl ?_
                  refine WD.takeOn 11 rfl (by kernel_rfl) (by kernel_rfl) (by kernel_rfl) rfl rfl rfl rfl (Yl.field fo42_1 rfl) rfl ?_
                  refine WD.takeOn 12 rfl (by kernel_rfl) (by kernel_rfl) (by kernel_rfl) rfl rfl rfl rfl (Yl.field fo40_0 rfl) rfl ?_
                  refine WD.takeOn 13 rfl (by kernel_rfl) (by kernel_rfl) (by kernel_rfl) rfl rfl rfl rfl (Yl.load on5 rfl (by repeat constructor) (by rfl)) rfl ?_
                  refine WD.takeOn 14 rfl (by kernel_rfl) (by kernel_rfl) (by kernel_rfl) rfl rfl rfl rfl (Yl.move rfl) rfl ?_
                  refine WD.takeOn 17 rfl (by kernel_rfl) (by kernel_rfl) (by kernel_rfl) rfl rfl rfl rfl (Yl.move rfl) rfl ?_
                  refine WD.takeOn 18 rfl (by kernel_rfl) (by kernel_rfl) (by kernel_rfl) rfl rfl rfl rfl (Yl.field fo42_1 rfl) rfl ?_
                  refine WD.takeOn 19 rfl (by kernel_rfl) (by kernel_rfl) (by kernel_rfl) rfl rfl rfl rfl (Yl.field fo40_0 rfl) rfl ?_
                  refine WD.takeOn 20 rfl (by kernel_rfl) (by kernel_rfl) (by kernel_rfl) rfl rfl rfl rfl (Yl.load on5 rfl (by repeat constructor) (by rfl)) rfl ?_
                  refine WD.takeOn 21 rfl (by kernel_rfl) (by kernel_rfl) (by kernel_rfl) rfl rfl rfl rfl (Yl.move rfl) rfl ?_
                  refine WD.one 15 (by kernel_rfl) ?_
                  refine WO.callC (xs := [.tmp 176]) (cap := []) rfl (.on rfl rfl) rfl rfl en14 (by repeat' constructor) (fun w hw => spaced_any N hny (by omega) w hw.left.here) rfl (fun _ => ⟨_, (by repeat' constructor)⟩) ?_
                  rintro ⟨⟩ -
                  refine WD.one 16 (by kernel_rfl) ?_
                  refine WO.callC (xs := [.tmp 172, .tmp 175, .tmp 177]) (cap := []) rfl (.on rfl rfl) rfl rfl en10 (by repeat' constructor) (fun w hw => hvp (spacedF N) (spacedF_by hny) (by omega) w (hw.src (r := rdR mxV 1 1 [.int .i64 m]) RdOf.rd' (by repeat constructor)) hw.left.here) rfl (fun _ => ⟨_, (by repeat' constructor)⟩) ?_
                  rintro es' ⟨hP', hE'⟩
                  refine WD.one 22 (by kernel_rfl) ?_
                  refine WO.callC (xs := [.tmp 179, .tmp 182, .tmp 183]) (cap := []) rfl (.on rfl rfl) rfl rfl en11 (by repeat' constructor) (fun w hw => hvr N hny (by omega) w hw.left.here) rfl (fun _ => ⟨_, (by repeat' constructor)⟩) ?_
                  rintro ⟨⟩ -
                  refine WD.takeOn 23 rfl (by kernel_rfl) (by kernel_rfl) (by kernel_rfl) rfl rfl rfl rfl (Yl.eql rfl rfl) rfl ?_
                  refine WD.know (t := 185) (b' := true) rfl (by rw [verE_sp _ _ hnb]; simp) ?_
                  refine WD.tk 24 rfl (by kernel_rfl) rfl rfl (Yl.pickT rfl rfl) rfl ?_
                  refine WD.tk 25 rfl (by kernel_rfl) rfl rfl (Yl.assign rfl) rfl ?_
                  refine WD.done (by kernel_rfl) ?_
                  exact ⟨rfl, ⟨b, ao, cp, mb, es', rverC C a N N⟩, ⟨hE', by dsimp only; rw [hP', verC_sp _ _ _ hnb]; exact hvs N⟩, (by repeat' constructor), _, (by repeat' constructor)⟩
                · refine WC.seq ?_
                  refine WC.region ?_
                  refine WL.y (Yl.eql rfl rfl) rfl ?_
                  refine WL.y (Yl.assign rfl) rfl ?_
                  refine WL.nil ?_
                  refine WC.condD rfl (fun g187 => ?_) (fun g187 => ?_)
                  · refine WC.drawAny (Hs := [blkR b11 42 ((⟨xk, (a : Int), (d : Int), key, strOfNums ts⟩ : Du)).cells]) mixed (by kernel_rfl) ⟨_, (by repeat' constructor)⟩ ?_
                    refine WD.tk 0 rfl (by kernel_rfl) rfl rfl (Yl.move rfl) rfl ?_
                    refine WD.tk 1 rfl (by kernel_rfl) rfl rfl (Yl.field fo42_1 rfl) rfl ?_
                    refine WD.tk 2 rfl (by kernel_rfl) rfl rfl (Yl.field fo40_0 rfl) rfl ?_
                    refine WD.tk 3 rfl (by kernel_rfl) rfl rfl (Yl.load on5 rfl (by repeat constructor) (by rfl)) rfl ?_
                    refine WD.tk 5 rfl (by kernel_rfl) rfl rfl (Yl.move rfl) rfl ?_
                    refine WD.tk 6 rfl (by kernel_rfl) rfl rfl (Yl.field fo42_1 rfl) rfl ?_
                    refine WD.tk 7 rfl (by kernel_rfl) rfl rfl (Yl.field fo40_0 rfl) rfl ?_
                    refine WD.tk 8 rfl (by kernel_rfl) rfl rfl (Yl.load on5 rfl (by repeat constructor) (by rfl)) rfl ?_
                    refine WD.one 4 (by kernel_rfl) ?_
                    refine WO.callC (xs := [.tmp 189, .tmp 192]) (cap := []) rfl .no rfl rfl en15 (by repeat' constructor) (fun w hw => accept_any b ao cp mb acc S es hE (a : Int) (by omega) w hw.left.here) rfl (fun _ => ⟨_, (by repeat' constructor)⟩) ?_
                    rintro es' ⟨hP', hE'⟩
                    refine WD.one 9 (by kernel_rfl) ?_
                    refine WO.callC (xs := [.tmp 194, .tmp 197]) (cap := []) rfl .no rfl rfl en16 (by repeat' constructor) (fun w hw => raccept_any b62 acc (.slice ao60 own.length c60) C hC a w hw.left.here) rfl (fun _ => ⟨_, (by repeat' constructor)⟩) ?_
                    rintro ⟨⟩ -
                    refine WD.tk 10 rfl (by kernel_rfl) rfl rfl (Yl.eql rfl rfl) rfl ?_
                    refine WD.know (t := 199) (b' := true) rfl (by rw [hst]; simp) ?_
                    refine WD.tk 11 rfl (by kernel_rfl) rfl rfl (Yl.assign rfl) rfl ?_
                    refine WD.done (by kernel_rfl) ?_
                    exact ⟨rfl, ⟨b, ao, cp, mb, es', raccC C a⟩, ⟨hE', by dsimp only; rw [hP']; exact hS.accs a⟩, (by repeat' constructor), _, (by repeat' constructor)⟩
                  · refine WC.seq ?_
                    refine WC.region ?_
                    refine WL.y (Yl.move rfl) rfl ?_
                    refine WL.callC (xs := [.tmp 76]) (cap := []) rfl rfl en18 (by repeat' constructor) (fun w hw => bytes_any b ao cp mb acc S (by omega) es hE C hS w hw.left.here) rfl ?_
                    rintro ⟨a77, c77⟩ -
                    dsimp only [List.cons_append, List.nil_append]
                    refine WL.callC (xs := [.tmp 77]) (cap := []) rfl rfl en17 (by repeat' constructor) (fun w hw => load_bk acc ha S hSS ⟨by omega, by omega⟩ (pj es) C hS (.slice a77 (bkB acc S (osOf (pj es))).length c77) w (hw.src (A := []) (r := ownR (.slice a77 (bkB acc S (osOf (pj es))).length c77) 5 1 (bkB acc S (osOf (pj es))).length (ints .u8 (bkB acc S (osOf (pj es))))) RdOf.own (by repeat constructor)) hw.left.here) rfl ?_
                    rintro ⟨b2, ⟨ao2, cp2⟩, mb2, es2⟩ ⟨hE2, hP2⟩
                    dsimp only [List.cons_append, List.nil_append] at hE2 hP2 ⊢
                    refine WL.y (Yl.move rfl) rfl ?_
                    refine WL.y (Yl.extract rfl rfl) rfl ?_
                    refine WL.y (Yl.extract rfl rfl) rfl ?_
                    refine WL.y (Yl.assign rfl) rfl ?_
                    refine WL.y (Yl.assign rfl) rfl ?_
                    refine WL.nil ?_
                    refine WC.seq ?_
                    refine WC.seq ?_
                    refine WC.region ?_
                    refine WL.y (Yl.move rfl) rfl ?_
                    refine WL.y (Yl.neq rfl rfl) rfl ?_
                    refine WL.know (t := 82) (b' := false) rfl (by first | rfl | (simp; done) | (simp; omega)) ?_
                    refine WL.y (Yl.move rfl) rfl ?_
                    refine WL.on rfl rfl ?_
                    refine WL.y (Yl.move rfl) rfl ?_
                    refine WL.on rfl rfl ?_
                    refine WL.y (Yl.nilEq un25 rfl rfl) rfl ?_
                    refine WL.know (t := 85) (b' := false) rfl (by first | rfl | (simp; done) | (simp; omega)) ?_
                    refine WL.y (Yl.pickF rfl rfl) rfl ?_
                    refine WL.nil ?_
                    refine WC.condF rfl (by first | rfl | (simp; done) | (simp; omega)) ?_
                    refine WC.skip ?_
                    refine WC.region ?_
                    refine WL.y (Yl.move rfl) rfl ?_
                    refine WL.y (Yl.assign rfl) rfl ?_
                    refine WL.nil ?_
                    exact ⟨rfl, ⟨b2, ao2, cp2, mb2, es2, C⟩, ⟨hE2, by dsimp only; rw [hP2]; exact hS.load⟩, (by repeat' constructor), _, (by repeat' constructor)⟩
        · clear hE hS hC hK4 hky hst
          rintro ⟨b, ao, cp, mb, es, C⟩ ⟨hE, hS⟩
          dsimp only at hE hS ⊢
          dsimp only [List.cons_append, List.nil_append]
          refine WC.seq ?_
          refine WC.region ?_
          refine WL.y (Yl.move rfl) rfl ?_
          refine WL.y (Yl.not rfl) rfl ?_
          refine WL.y (Yl.move rfl) rfl ?_
          refine WL.on rfl rfl ?_
          refine WL.y (Yl.move rfl) rfl ?_
          refine WL.on rfl rfl ?_
          refine WL.y (Yl.move rfl) rfl ?_
          refine WL.on rfl rfl ?_
          refine WL.callC (xs := [.tmp 203, .tmp 204]) (cap := []) rfl rfl en19 (by repeat' constructor) (fun w hw => hali b ao cp mb es hE b62 ao60 c60 C hS w hw.left.here) rfl ?_
          rintro ⟨⟩ -
          dsimp only [List.cons_append, List.nil_append]
          refine WL.on rfl rfl ?_
          refine WL.y (Yl.not rfl) rfl ?_
          refine WL.know (t := 206) (b' := false) rfl (by first | rfl | (simp; done) | (simp; omega)) ?_
          refine WL.y (Yl.pickF rfl rfl) rfl ?_
          refine WL.nil ?_
          refine WC.condF rfl (by first | rfl | (simp; done) | (simp; omega)) ?_
          refine WC.skip ?_
          refine WC.region ?_
          refine WL.y (Yl.add rfl rfl (IntWalk.i64_in _ (by omega))) rfl ?_
          refine WL.y (Yl.move rfl) rfl ?_
          refine WL.nil ?_
          exact ⟨rfl, (i + 1, ⟨b, ao, cp, mb, es, C⟩), ⟨by dsimp only; omega, hE, hS⟩, by dsimp only; omega, (by repeat' constructor), _, (by repeat' constructor)⟩
    · refine WC.exit ?_
      refine WC.seq ?_
      refine WC.region ?_
      refine WL.y (Yl.assign rfl) rfl ?_
      refine WL.nil ?_
      refine WC.ret ?_
      repeat (with_reducible (first | refine peelT ?_ | refine peelB ?_ | refine peelTX ?_ | refine peelBX ?_ | refine peelBN ?_ | refine peelBO rfl ?_))
      exact ret1 (.inr rfl) Tryz.results3 rfl fun w' h => ⟨(), trivial, rfl, h.sub (by repeat' constructor)⟩
theorem plays_any (m : Int) (acc : Int) (h0 : 0 ≤ acc ∧ acc < 256) (own : List Ky) (vk : Value) (l : List Du) (v : Value) (hG : ∀ x ∈ l, x.ok) (w : World) (hw : OK w (fpL [rdR vk 32 own.length (vcs kyV own), rdR v 36 l.length (vcs duV l), rdR mxV 1 1 [.int .i64 m]]) [rdR vk 32 own.length (vcs kyV own), rdR v 36 l.length (vcs duV l), rdR mxV 1 1 [.int .i64 m]] w) :
    Fn Tryz.prog 3 [.int .u8 acc, vk, v] [rdR vk 32 own.length (vcs kyV own), rdR v 36 l.length (vcs duV l), rdR mxV 1 1 [.int .i64 m]] w (fun _ : Unit => True) (fun _ => .bool true) (fun _ => []) := by
  by_cases h : 8 ≤ acc ∨ own.length < 1 ∨ 4 < own.length
  · exact plays_no m acc own vk l v h w hw
  · exact plays_yes m acc own vk l v hG (by omega) (by omega) w hw
end Go.Proofs.YtcplbkbimpiioaaGreatDoor
