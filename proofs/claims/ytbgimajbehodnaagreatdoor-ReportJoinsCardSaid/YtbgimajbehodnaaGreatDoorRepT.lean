/- A table of records: the walks. -/
import Derived.Test.YtbgimajbehodnaaGreatDoorRepV
import Derived.Test.YtbgimajbehodnaaGreatDoorRepU
import Derived.Test.YtbgimajbehodnaaGreatDoorRepGB
import Derived.Test.YtbgimajbehodnaaGreatDoorTerA
import Derived.Test.YtbgimajbehodnaaGreatDoorLibI
import Derived.Test.YtbgimajbehodnaaGreatDoorLibSt
namespace Go.Proofs.YtbgimajbehodnaaGreatDoor
open Go Go.RowKit
/-- A row's cells: an account, six numbers. -/
def rwC (p : Int) (l : List Int) : List Value := .int .u8 p :: ints .u64 l
theorem rwC_len {p : Int} {l : List Int} (h : l.length = 6) : (rwC p l).length = 7 := by simp [rwC, ints_length, h]
theorem rwC_ones (p : Int) (l : List Int) : ∀ v ∈ rwC p l, v.oneCell' = true := by
  intro v hv
  rcases List.mem_cons.1 hv with rfl | hv
  · rfl
  · exact ints_one _ _ v hv
theorem rwC_at {p : Int} {l : List Int} {k : Nat} {v : Int} (h : l[k]? = some v) : (rwC p l)[k + 1]? = some (.int .u64 v) := by simp [rwC, ints, h]
def rwV (p : Int) (l : List Int) : Value := .agg (rwC p l).toArray
set_option maxRecDepth 100000 in
theorem row_any (p : Int) (s : Sm) (hs : s.oc.length = 8) (w : World) (hw : OK w (fpL []) [] w) : Fn Tryz.prog 60 [.int .u8 p, smV s] [] w (fun _ : Unit => True) (fun _ => rwV p (smN s)) (fun _ => []) := by
  have h3 : s.oc[3]? = some (s.oc.getD 3 0) := by simp [hs]
  refine enterF Tryz.func60 rfl Tryz.ntmps60 rfl hw ?_
  refine WC.seq ?_
  refine WC.region ?_
  refine WL.to (To.box (cs := s.cells) rfl rfl) rfl ?_
  intro b3
  refine WL.to (To.alloc (cs := rwC 0 [0, 0, 0, 0, 0, 0]) zr70 rfl) rfl ?_
  intro b4
  refine WL.nil ?_
  refine WC.seq ?_
  refine WC.region ?_
  refine WL.y (Yl.move rfl) rfl ?_
  refine WL.y (Yl.field fo37_0 rfl) rfl ?_
  refine WL.y (Yl.load on34 rfl (by repeat constructor) (Sm.g0 s)) rfl ?_
  refine WL.y (Yl.field fo37_1 rfl) rfl ?_
  refine WL.y (Yl.load on34 rfl (by repeat constructor) (Sm.g1 s)) rfl ?_
  refine WL.y (Yl.field fo37_2 rfl) rfl ?_
  refine WL.y (Yl.load on34 rfl (by repeat constructor) (Sm.g2 s)) rfl ?_
  refine WL.y (Yl.field fo37_4 rfl) rfl ?_
  refine WL.y (Yl.load on34 rfl (by repeat constructor) (Sm.g11 hs)) rfl ?_
  refine WL.y (Yl.field fo37_5 rfl) rfl ?_
  refine WL.y (Yl.load on34 rfl (by repeat constructor) (Sm.g12 hs)) rfl ?_
  refine WL.y (Yl.field fo37_3 rfl) rfl ?_
  refine WL.y (Yl.indexA (j := 3) un35 sz34 rfl rfl rfl (by omega)) rfl ?_
  refine WL.y (Yl.load on34 rfl (by repeat constructor) (Sm.ocAt hs (i := 3) h3 rfl)) rfl ?_
  refine WL.y (Yl.build rfl (cs := rwC p (smN s)) (fun _ => by kernel_rfl)) rfl ?_
  refine WL.sto (Sto.agg sz70 rfl rfl (by repeat constructor) (rwC_ones _ _) (rwC_len (p := p) (l := smN s) rfl) (by rfl) (putAll rfl)) (fun _ h => nomatch h) ?_
  refine WL.nil ?_
  refine WC.ret ?_
  repeat (with_reducible (first | refine peelT ?_ | refine peelB ?_ | refine peelTX ?_ | refine peelBX ?_ | refine peelBN ?_ | refine peelBO rfl ?_))
  exact retC1 (.inr rfl) Tryz.results60 ag70 rfl (by repeat constructor) (rwC_len rfl) fun w' h => ⟨(), trivial, rfl, h.sub (by repeat' constructor)⟩
def numV0 : List Value := List.replicate 6 (.pointer none)
def numV (b : Nat) : List Value := (List.range 6).map fun i => .pointer (some ⟨b, i + 1, none⟩)
theorem numV_ones (b : Nat) : ∀ v ∈ numV b, v.oneCell' = true := by
  intro v hv
  obtain ⟨i, _, rfl⟩ := List.mem_map.1 hv
  rfl
theorem numV_at (b : Nat) {k : Nat} (h : k < 6) : (numV b)[k]? = some (.pointer (some ⟨b, k + 1, none⟩)) := by simp [numV, h]
theorem nums_any (b : Nat) (w : World) (hw : OK w (fpL []) [] w) : Fn Tryz.prog 62 [.pointer (some ⟨b, 0, none⟩)] [] w (fun _ : Unit => True) (fun _ => .agg (numV b).toArray) (fun _ => []) := by
  refine enterF Tryz.func62 rfl Tryz.ntmps62 rfl hw ?_
  refine WC.seq ?_
  refine WC.region ?_
  refine WL.to (To.alloc (cs := numV0) zr131 rfl) rfl ?_
  intro b2
  refine WL.nil ?_
  refine WC.seq ?_
  refine WC.drawLast 19 (Hs := [blkR b2 131 numV0]) rfl rfl mixed (by kernel_rfl) ⟨_, (by repeat' constructor)⟩ ?_
  try dsimp only [List.dropLast]
  refine WD.tk 0 rfl (by kernel_rfl) rfl rfl (Yl.move rfl) rfl ?_
  refine WD.tk 1 rfl (by kernel_rfl) rfl rfl (Yl.nilCheck rfl) rfl ?_
  refine WD.tk 2 rfl (by kernel_rfl) rfl rfl (Yl.field fo70_1 rfl) rfl ?_
  refine WD.tk 3 rfl (by kernel_rfl) rfl rfl (Yl.move rfl) rfl ?_
  refine WD.tk 4 rfl (by kernel_rfl) rfl rfl (Yl.nilCheck rfl) rfl ?_
  refine WD.tk 5 rfl (by kernel_rfl) rfl rfl (Yl.field fo70_2 rfl) rfl ?_
  refine WD.tk 6 rfl (by kernel_rfl) rfl rfl (Yl.move rfl) rfl ?_
  refine WD.tk 7 rfl (by kernel_rfl) rfl rfl (Yl.nilCheck rfl) rfl ?_
  refine WD.tk 8 rfl (by kernel_rfl) rfl rfl (Yl.field fo70_3 rfl) rfl ?_
  refine WD.tk 9 rfl (by kernel_rfl) rfl rfl (Yl.move rfl) rfl ?_
  refine WD.tk 10 rfl (by kernel_rfl) rfl rfl (Yl.nilCheck rfl) rfl ?_
  refine WD.tk 11 rfl (by kernel_rfl) rfl rfl (Yl.field fo70_4 rfl) rfl ?_
  refine WD.tk 12 rfl (by kernel_rfl) rfl rfl (Yl.move rfl) rfl ?_
  refine WD.tk 13 rfl (by kernel_rfl) rfl rfl (Yl.nilCheck rfl) rfl ?_
  refine WD.tk 14 rfl (by kernel_rfl) rfl rfl (Yl.field fo70_5 rfl) rfl ?_
  refine WD.tk 15 rfl (by kernel_rfl) rfl rfl (Yl.move rfl) rfl ?_
  refine WD.tk 16 rfl (by kernel_rfl) rfl rfl (Yl.nilCheck rfl) rfl ?_
  refine WD.tk 17 rfl (by kernel_rfl) rfl rfl (Yl.field fo70_6 rfl) rfl ?_
  refine WD.tk 18 rfl (by kernel_rfl) rfl rfl (Yl.build rfl (cs := numV b) (fun _ => by kernel_rfl)) rfl ?_
  refine WD.done (by kernel_rfl) ?_
  refine ⟨_, (Sto.agg sz131 rfl rfl (by repeat constructor) (numV_ones b) rfl (by rfl) (putAll rfl)), ?_⟩
  refine WC.ret ?_
  repeat (with_reducible (first | refine peelT ?_ | refine peelB ?_ | refine peelTX ?_ | refine peelBX ?_ | refine peelBN ?_ | refine peelBO rfl ?_))
  exact retC1 (.inr rfl) Tryz.results62 ag131 rfl (by repeat constructor) rfl fun w' h => ⟨(), trivial, rfl, h.sub (by repeat' constructor)⟩
theorem peer_ky (w : World) : KyP Tryz.prog 59 [] (fun _ => False) .u8 (fun r => r.peer) w := by
  intro w' _ x hx
  have hw : OK w' (fpL []) [] w' := ok_same
  have h22 := Rc.cells_len hx.len
  refine enterF Tryz.func59 rfl Tryz.ntmps59 rfl hw ?_
  refine WC.seq ?_
  refine WC.region ?_
  refine WL.to (To.box (cs := x.cells) rfl rfl) rfl ?_
  intro b1
  refine WL.y (Yl.assign rfl) rfl ?_
  refine WL.nil ?_
  refine WC.seq ?_
  refine WC.region ?_
  refine WL.y (Yl.field fo45_1 rfl) rfl ?_
  refine WL.y (Yl.load on5 rfl (by repeat constructor) (Rc.c16 hx.len)) rfl ?_
  refine WL.y (Yl.assign rfl) rfl ?_
  refine WL.nil ?_
  refine WC.ret ?_
  repeat (with_reducible (first | refine peelT ?_ | refine peelB ?_ | refine peelTX ?_ | refine peelBX ?_ | refine peelBN ?_ | refine peelBO rfl ?_))
  exact ret1 (.inr rfl) Tryz.results59 rfl fun w' h => ⟨(), trivial, rfl, h.sub (by repeat' constructor)⟩
theorem table_any (gf : Nat) (lb : List Value) (own : Nat → Prop) (xs : List Rc) (hG : ROk xs) (hl : xs.length ≤ 12) (eg : ∀ args w, (callFunc gf args).run Tryz.prog w = .ok (.enter gf args) w) (w : World) (hw : OK w (fpL [itR Tryz.prog gf lb own (ysR xs), glR]) [itR Tryz.prog gf lb own (ysR xs), glR] w) :
    Fn Tryz.prog 21 [.func (.func gf) #[] lb.toArray] [itR Tryz.prog gf lb own (ysR xs), glR] w (fun _ : Unit => True) (fun _ => .string (strOfNums (tabI xs))) (fun _ => []) := by
  refine enterM Tryz.func21 rfl Tryz.ntmps21 rfl hw ?_
  refine WC.seq ?_
  refine WC.region ?_
  refine WL.y (Yl.assign rfl) rfl ?_
  refine WL.nil ?_
  refine WC.seq ?_
  refine WC.region ?_
  refine WL.to (To.alloc (cs := [.pointer none, .slice none 0 0]) zr123 rfl) rfl ?_
  intro b3
  refine WL.nil ?_
  refine WC.seq ?_
  refine WC.region ?_
  refine WL.view (fun w h => h.addNil 5 1) ?_
  refine WL.callC (xs := [.tmp 3, _]) (cap := []) rfl rfl en58 (by repeat' constructor) (fun w hw => ws_any b3 false (none, 0) [] headI (by rw [headI_len]; decide) headI_bytes w hw.left.here) rfl ?_
  rintro z -
  dsimp only [List.cons_append, List.nil_append]
  refine WL.nil ?_
  refine WC.seq ?_
  refine WC.seq ?_
  refine WC.region ?_
  refine WL.y (Yl.move rfl) rfl ?_
  refine WL.view (fun w h => OK.toKy (A := []) (k := .u8) (own := fun _ => False) h (peer_ky w) (fun _ h => h.elim)) ?_
  refine WL.callC (xs := [.tmp 10, .func 59]) (cap := []) rfl rfl en23 (by repeat' constructor) (fun w hw => byB_any gf lb own xs hG hl eg 59 [] (fun _ => False) (fun r => r.peer) (fun x hx => wf8 hx.peer) en59 w hw.left.here) rfl ?_
  rintro ⟨y1, y2, own2⟩ -
  have hrl := rowsI_len (byV_u8 hG)
  have hvl := byV_le (fun r => r.peer) xs
  dsimp only [List.cons_append, List.nil_append]
  refine WL.nil ?_
  refine WC.block ?_
  refine WC.range (α := Option Addr × Nat) (lb := [.pointer (some ⟨y1, 0, none⟩), .pointer (some ⟨y2, 0, none⟩)]) (xs := ysB .u8 (byV (fun r => r.peer) xs)) (fun i x => [blkR b3 123 [bdP b3 true, .slice x.1 (headI ++ rowsI ((byV (fun r => r.peer) xs).take i)).length x.2], ownR (.slice x.1 (headI ++ rowsI ((byV (fun r => r.peer) xs).take i)).length x.2) 5 1 (headI ++ rowsI ((byV (fun r => r.peer) xs).take i)).length (ints .u8 (headI ++ rowsI ((byV (fun r => r.peer) xs).take i))), glR]) (fun _ _ => True) z rfl en65 ysB_size rfl (by repeat constructor) trivial (by repeat' constructor) ?_ ?_
  · intro l2 i y x hx _ W2
    obtain ⟨q, hq0, rfl⟩ := ysB_at hx
    have hqm := List.mem_of_getElem? hq0
    have hqo := byV_u8 hG q hqm
    have hqp := hqo.1
    have hsl := hqo.2.ol
    have hsn := smN_ok hqo.2
    have hil := (List.getElem?_eq_some_iff.1 hq0).1
    have hnx : (byV (fun r => r.peer) xs).take (i + 1) = (byV (fun r => r.peer) xs).take i ++ [q] := (take_snoc _ _ _ hq0).symm
    have hrl2 := rowsI_len (l := (byV (fun r => r.peer) xs).take i) fun r hr => byV_u8 hG r (List.mem_of_mem_take hr)
    rw [hnx, rowsI_snoc, ← List.append_assoc]
    dsimp only
    obtain ⟨B, hB⟩ : ∃ B, B = headI ++ rowsI ((byV (fun r => r.peer) xs).take i) := ⟨_, rfl⟩
    have hBl : B.length ≤ 200000000 := by rw [hB, List.length_append, headI_len]; rw [List.length_take] at hrl2; omega
    rw [← hB]
    obtain ⟨p, s⟩ := q
    dsimp only at hqp hsl hsn ⊢
    obtain ⟨pn, rfl⟩ : ∃ pn : Nat, p = (pn : Int) := ⟨p.toNat, by unfold U8 at hqp; omega⟩
    have hpn : pn < 256 := by unfold U8 at hqp; omega
    have hpl := decI_len (u := pn) (by omega)
    show WC _ _ _ ((13, .agg s.cells.toArray) :: (12, .int .u8 (pn : Int)) :: _) _ _
    refine WC.seq ?_
    refine WC.region ?_
    refine WL.y (Yl.assign rfl) rfl ?_
    refine WL.nil ?_
    refine WC.region ?_
    refine WL.to (To.alloc (cs := Sm.zero.cells) zr37 rfl) rfl ?_
    intro b5
    refine WL.sto (Sto.agg sz37 rfl rfl (by repeat constructor) (Sm.ones _) (Sm.cells_len hsl) (by rfl) (putAll rfl)) (fun _ h => nomatch h) ?_
    refine WL.nil ?_
    repeat (with_reducible (first | refine peelT ?_ | refine peelB ?_ | refine peelTX ?_ | refine peelBX ?_ | refine peelBN ?_ | refine peelBO rfl ?_))
    refine fun W2 => ?_
    refine WC.block ?_
    refine WC.seq ?_
    refine WC.region ?_
    refine WL.y (Yl.move rfl) rfl ?_
    refine WL.y (Yl.loadN ag37 rfl (by repeat constructor) (leBl (by rw [Sm.cells_len hsl]; omega)) (Sm.call hsl)) rfl ?_
    refine WL.callC (xs := [.tmp 14, .tmp 15]) (cap := []) rfl rfl en60 (by repeat' constructor) (fun w hw => row_any (pn : Int) s hsl w hw.left.here) rfl ?_
    rintro ⟨⟩ -
    refine WL.to (To.alloc (cs := rwC 0 [0, 0, 0, 0, 0, 0]) zr70 rfl) rfl ?_
    intro b6
    refine WL.sto (Sto.agg sz70 rfl rfl (by repeat constructor) (rwC_ones _ _) (rwC_len (p := (pn : Int)) (l := smN s) rfl) (by rfl) (putAll rfl)) (fun _ h => nomatch h) ?_
    refine WL.nil ?_
    refine WC.seq ?_
    refine WC.region ?_
    refine WL.y (Yl.move rfl) rfl ?_
    refine WL.y (Yl.conv un5 un3 rfl (IntWalk.i64_in _ (by omega))) rfl ?_
    refine WL.callC (xs := [.tmp 18]) (cap := []) rfl rfl en61 (by repeat' constructor) (fun w hw => itoa_any pn (by omega) w (hw.srcGr (by repeat constructor))) rfl ?_
    rintro ⟨⟩ -
    refine WL.callC (xs := [.tmp 3, .tmp 19]) (cap := []) rfl rfl en58 (by repeat' constructor) (fun w hw => ws_any b3 true x B (decI pn) (by omega) (decI_bytes pn) w hw.left.here) rfl ?_
    rintro z1 -
    dsimp only [List.cons_append, List.nil_append]
    refine WL.nil ?_
    refine WC.seq ?_
    refine WC.seq ?_
    refine WC.region ?_
    refine WL.callC (xs := [.tmp 6]) (cap := []) rfl rfl en62 (by repeat' constructor) (fun w hw => nums_any b6 w hw.left.here) rfl ?_
    rintro ⟨⟩ -
    refine WL.y (Yl.move rfl) rfl ?_
    refine WL.nil ?_
    refine WC.block ?_
    refine WC.loop (α := Nat × (Option Addr × Nat)) (fun k => [(3, .pointer (some ⟨b3, 0, none⟩)), (21, .agg (numV b6).toArray), (22, .int .i64 (k.1 : Int))]) (fun k => [blkR b6 70 (rwC (pn : Int) (smN s)), blkR b3 123 [bdP b3 true, .slice k.2.1 (B ++ decI pn ++ numI ((smN s).take k.1)).length k.2.2], ownR (.slice k.2.1 (B ++ decI pn ++ numI ((smN s).take k.1)).length k.2.2) 5 1 (B ++ decI pn ++ numI ((smN s).take k.1)).length (ints .u8 (B ++ decI pn ++ numI ((smN s).take k.1))), glR]) (fun k => k.1 ≤ 6) (fun k => 6 - k.1) (0, z1) (Nat.zero_le _) ⟨(by repeat' constructor), _, by rw [List.take_zero, show numI [] = [] from rfl, List.append_nil]; exact (by repeat' constructor)⟩ ?_
    rintro ⟨k, z⟩ hk
    dsimp only at hk ⊢
    refine WC.seq ?_
    refine WC.region ?_
    refine WL.y (Yl.lss rfl rfl) rfl ?_
    refine WL.nil ?_
    refine WC.seq ?_
    refine WC.condD rfl (fun g23 => ?_) (fun g23 => ?_)
    · refine WC.skip ?_
      refine WC.seq ?_
      refine WC.block ?_
      refine WC.seq ?_
      refine WC.region ?_
      have hk6 : k < 6 := by omega
      have hnl : (smN s).length = 6 := rfl
      obtain ⟨v, hv⟩ : ∃ v, (smN s)[k]? = some v := ⟨_, List.getElem?_eq_getElem (by omega)⟩
      have hvu := hsn v (List.mem_of_getElem? hv)
      obtain ⟨vn, rfl⟩ : ∃ vn : Nat, v = (vn : Int) := ⟨v.toNat, by unfold U64 at hvu; omega⟩
      have hvn : vn < 18446744073709551616 := by unfold U64 at hvu; omega
      have hvl := decI_len hvn
      have hnk : numI ((smN s).take (k + 1)) = numI ((smN s).take k) ++ ([32] ++ decI vn) := by rw [← take_snoc _ _ _ hv, numI_snoc]; rfl
      have hnkl := numI_len (l := (smN s).take k) fun x hx => hsn x (List.mem_of_mem_take hx)
      rw [List.length_take] at hnkl
      refine WL.y (Yl.idx un131 sz130 on130 rfl rfl rfl (by omega) (numV_at b6 hk6)) rfl ?_
      refine WL.y (Yl.assign rfl) rfl ?_
      refine WL.nil ?_
      refine WC.region ?_
      refine WL.y (Yl.move rfl) rfl ?_
      refine WL.y (Yl.nilCheck rfl) rfl ?_
      refine WL.y (Yl.load on34 rfl (by repeat constructor) (rwC_at hv)) rfl ?_
      refine WL.callC (xs := [.tmp 27, _]) (cap := []) rfl rfl en63 (by repeat' constructor) (fun w hw => formatU_any vn hvn w (hw.srcGr (by repeat constructor)) hw.left.here) rfl ?_
      rintro ⟨⟩ -
      refine WL.y (Yl.sAdd (xs := [32]) (ys := decI vn) (by simp; omega) rfl rfl) rfl ?_
      refine WL.callC (xs := [.tmp 3, .tmp 29]) (cap := []) rfl rfl en58 (by repeat' constructor) (fun w hw => ws_any b3 true z (B ++ decI pn ++ numI ((smN s).take k)) ([32] ++ decI vn) (by simp only [List.length_append, List.length_cons, List.length_nil]; omega) (bytes32.app (decI_bytes vn)) w hw.left.here) rfl ?_
      rintro z2 -
      dsimp only [List.cons_append, List.nil_append]
      rw [show B ++ decI pn ++ numI ((smN s).take k) ++ 32 :: decI vn = B ++ decI pn ++ numI ((smN s).take (k + 1)) by rw [hnk]; simp]
      refine WL.nil ?_
      refine WC.region ?_
      refine WL.y (Yl.add rfl rfl (IntWalk.i64_in _ (by omega))) rfl ?_
      refine WL.say (t := 31) (v' := .int .i64 ((k + 1 : Nat) : Int)) rfl (by rfl) ?_
      refine WL.y (Yl.move rfl) rfl ?_
      refine WL.nil ?_
      exact ⟨rfl, (k + 1, z2), by dsimp only; omega, by dsimp only; omega, (by repeat' constructor), _, (by repeat' constructor)⟩
    · refine WC.exit ?_
      refine WC.region ?_
      obtain rfl : k = 6 := by omega
      have hnkl := numI_len hsn
      rw [show (smN s).take 6 = smN s from rfl]
      have hnl : (smN s).length = 6 := rfl
      refine WL.callC (xs := [.tmp 3, _]) (cap := []) rfl rfl en58 (by repeat' constructor) (fun w hw => ws_any b3 true z (B ++ decI pn ++ numI (smN s)) [10] (by simp only [List.length_append, List.length_cons, List.length_nil]; omega) bytes10 w hw.left.here) rfl ?_
      rintro z2 -
      dsimp only [List.cons_append, List.nil_append]
      rw [show B ++ decI pn ++ numI (smN s) ++ [10] = B ++ lineI (pn : Int) (smN s) by unfold lineI; simp]
      refine WL.nil ?_
      repeat (with_reducible (first | refine peelT ?_ | refine peelB ?_ | refine peelTX ?_ | refine peelBX ?_ | refine peelBN ?_ | refine peelBO rfl ?_))
      exact ⟨[blkR b3 123 [bdP b3 true, .slice z2.1 (B ++ lineI (pn : Int) (smN s)).length z2.2], ownR (.slice z2.1 (B ++ lineI (pn : Int) (smN s)).length z2.2) 5 1 (B ++ lineI (pn : Int) (smN s)).length (ints .u8 (B ++ lineI (pn : Int) (smN s))), glR], _, (by repeat' constructor), z2, trivial, rfl⟩
  · rintro z D -
    rw [ysB_len, List.take_length]
    dsimp only [List.cons_append, List.nil_append]
    refine WC.seq ?_
    refine WC.region ?_
    refine WL.callC (xs := [.tmp 3]) (cap := []) rfl rfl en64 (by repeat' constructor) (fun w hw => str_any b3 z (tabI xs) (tabI_bytes xs) (by unfold tabI; rw [List.length_append, headI_len]; omega) w hw.left.here) rfl ?_
    rintro ⟨⟩ -
    refine WL.y (Yl.assign rfl) rfl ?_
    refine WL.nil ?_
    refine WC.ret ?_
    repeat (with_reducible (first | refine peelT ?_ | refine peelB ?_ | refine peelTX ?_ | refine peelBX ?_ | refine peelBN ?_ | refine peelBO rfl ?_))
    refine retM.of (.cons (by repeat constructor) .nil) ?_
    exact ret1 (.inr rfl) Tryz.results21 rfl fun w' h => ⟨(), trivial, rfl, h.sub (by repeat' constructor)⟩
end Go.Proofs.YtbgimajbehodnaaGreatDoor
