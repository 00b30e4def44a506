/- Nothing gone over; the document's records; how long a call took: the walks. -/
import Derived.Test.YtbgimajbehodnaaGreatDoorRepX
import Derived.Test.YtbgimajbehodnaaGreatDoorRepF
import Derived.Test.YtbgimajbehodnaaGreatDoorLibEl
namespace Go.Proofs.YtbgimajbehodnaaGreatDoor
open Go Go.RowKit
def bnA (gf : Nat) (lb : List Value) (b1 b2 : Nat) : List Res := [roR (blkR b1 148 [.nilFunc]), roR (blkR b2 40 [.func (.func gf) #[] lb.toArray])]
theorem by1N_iter (gf : Nat) (lb : List Value) (b1 b2 : Nat) (w : World) (hA : OK w (fpL (bnA gf lb b1 b2)) (bnA gf lb b1 b2) w) :
    Iter Tryz.prog 78 ([.pointer (some ⟨b1, 0, none⟩), .pointer (some ⟨b2, 0, none⟩)] : List Value).toArray (fpL (bnA gf lb b1 b2)).rd (ysB .i64 []) w := by
  unfold bnA at hA ⊢
  have hwr : ∀ r ∈ [roR (blkR b1 148 [.nilFunc]), roR (blkR b2 40 [.func (.func gf) #[] lb.toArray])], ∀ k, ¬ r.wr k := by
    intro r hr k hk
    simp at hr
    rcases hr with rfl | rfl <;> exact hk
  refine iter_ofM Tryz.func78 rfl Tryz.ntmps78 rfl hA hwr ?_
  intro l W g gx T0 hy
  refine WC.seq ?_
  refine WC.seq ?_
  refine WC.region ?_
  refine WL.y (Yl.loadRo on148 rfl (by repeat constructor) (by rfl)) rfl ?_
  refine WL.y (Yl.eqNilN (by kernel_rfl) rfl rfl) rfl ?_
  refine WL.know (t := 10) (b' := true) rfl (by first | rfl | (simp; done) | (simp; omega)) ?_
  refine WL.nil ?_
  refine WC.condT rfl (by first | rfl | (simp; done) | (simp; omega)) ?_
  refine WC.ret ?_
  repeat (with_reducible (first | refine peelT ?_ | refine peelB ?_ | refine peelTX ?_ | refine peelBX ?_ | refine peelBN ?_ | refine peelBO rfl ?_))
  refine retM.of .nil ?_
  exact itEnd (.inr rfl) Tryz.results78 (by repeat constructor)
theorem byN_any (gf : Nat) (lb : List Value) (w : World) (hw : OK w (fpL []) [] w) :
    Fn Tryz.prog 41 [.func (.func gf) #[] lb.toArray, .nilFunc] [] w (fun _ : Nat × Nat × (Nat → Prop) => True) (fun y => .func (.func 78) #[] #[.pointer (some ⟨y.1, 0, none⟩), .pointer (some ⟨y.2.1, 0, none⟩)])
      (fun y => [itR Tryz.prog 78 [.pointer (some ⟨y.1, 0, none⟩), .pointer (some ⟨y.2.1, 0, none⟩)] y.2.2 (ysB .i64 [])]) := by
  refine enterF Tryz.func41 rfl Tryz.ntmps41 rfl hw ?_
  refine WC.seq ?_
  refine WC.region ?_
  refine WL.to (To.box (cs := [.func (.func gf) #[] lb.toArray]) rfl rfl) rfl ?_
  intro b2
  refine WL.to (To.box (cs := [.nilFunc]) rfl rfl) rfl ?_
  intro b3
  refine WL.y (Yl.assign rfl) rfl ?_
  refine WL.nil ?_
  refine WC.seq ?_
  refine WC.region ?_
  refine WL.y (Yl.makeFunc (xs := []) (ys := [.tmp 3, .tmp 2]) rfl rfl) rfl ?_
  refine WL.y (Yl.assign rfl) rfl ?_
  refine WL.nil ?_
  refine WC.ret ?_
  repeat (with_reducible (first | refine peelT ?_ | refine peelB ?_ | refine peelTX ?_ | refine peelBX ?_ | refine peelBN ?_ | refine peelBO rfl ?_))
  refine ret1 (.inr rfl) Tryz.results41 rfl fun w' hh => ⟨(b3, b2, (fpL (bnA gf lb b3 b2)).rd), trivial, rfl, ?_⟩
  have hA : OK w _ ([blkR b3 148 [.nilFunc], blkR b2 40 [.func (.func gf) #[] lb.toArray]] ++ []) w' := hh.sub (by repeat' constructor)
  have hro : OK w _ (bnA gf lb b3 b2 ++ []) w' := hA.freeze
  exact hro.toIter (by1N_iter gf lb b3 b2 w' hro.here) (fun k hk => hk)
theorem sumsN_any (gf : Nat) (lb : List Value) (own : Nat → Prop) (eg : ∀ args w, (callFunc gf args).run Tryz.prog w = .ok (.enter gf args) w) (most : Nat) (w : World) (hw : OK w (fpL [itR Tryz.prog gf lb own (ysB .i64 [])]) [itR Tryz.prog gf lb own (ysB .i64 [])] w) :
    Fn Tryz.prog 40 [.func (.func gf) #[] lb.toArray, .int .i64 (most : Int)] [itR Tryz.prog gf lb own (ysB .i64 [])] w (fun _ : Unit => True) (fun _ => .tuple #[.slice none 0 0, .slice none 0 0]) (fun _ => []) := by
  refine enterM Tryz.func40 rfl Tryz.ntmps40 rfl hw ?_
  refine WC.seq ?_
  refine WC.region ?_
  refine WL.to (To.box (cs := [.int .i64 (most : Int)]) rfl rfl) rfl ?_
  intro b3
  refine WL.to (To.alloc (cs := [.slice none 0 0]) zr92 rfl) rfl ?_
  intro b4
  refine WL.to (To.alloc (cs := [.slice none 0 0]) zr49 rfl) rfl ?_
  intro b5
  refine WL.nil ?_
  refine WC.seq ?_
  refine WC.seq ?_
  refine WC.region ?_
  refine WL.y (Yl.move rfl) rfl ?_
  refine WL.nil ?_
  refine WC.block ?_
  refine WC.range (α := Unit) (lb := lb) (xs := ysB .i64 []) (fun _ _ => [blkR b3 3 [.int .i64 (most : Int)], blkR b4 92 [.slice none 0 0], blkR b5 49 [.slice none 0 0]]) (fun _ _ => True) () rfl eg ysB_size rfl (by repeat constructor) trivial (by repeat' constructor) (fun l i x s hx => by simp [ysB] at hx) ?_
  rintro ⟨⟩ D -
  dsimp only [List.cons_append, List.nil_append]
  refine WC.seq ?_
  refine WC.drawLast 3 (Hs := [blkR b5 49 [.slice none 0 0]]) rfl rfl mixed (by kernel_rfl) ⟨_, (by repeat' constructor)⟩ ?_
  try dsimp only [List.dropLast]
  refine WD.tk 1 rfl (by kernel_rfl) rfl rfl (Yl.load on49 rfl (by repeat constructor) (by rfl)) rfl ?_
  refine WD.one 0 (by kernel_rfl) ?_
  refine WO.y rfl rfl .no (Yl.load on92 rfl (by repeat constructor) (by rfl)) rfl ?_
  refine WD.one 2 (by kernel_rfl) ?_
  refine WO.sto rfl rfl .no (Sto.one sz92 rfl rfl (by repeat constructor) rfl (by rfl) (by rfl)) ⟨_, (by repeat' constructor)⟩ ?_
  refine WD.done (by kernel_rfl) ?_
  refine ⟨_, (Sto.one sz49 rfl rfl (by repeat constructor) rfl (by rfl) (by rfl)), ?_⟩
  refine WC.ret ?_
  repeat (with_reducible (first | refine peelT ?_ | refine peelB ?_ | refine peelTX ?_ | refine peelBX ?_ | refine peelBN ?_ | refine peelBO rfl ?_))
  refine retM.of (.cons (by repeat constructor) .nil) ?_
  exact retVV (.inr rfl) Tryz.results40 on92 on49 rfl rfl (by repeat constructor) (by repeat constructor) fun w' h => ⟨(), trivial, rfl, h.sub (by repeat' constructor)⟩
theorem ofNil_any (w : World) (hw : OK w (fpL []) [] w) : Fn Tryz.prog 13 [.nilFunc] [] w (fun _ : Unit => True) (fun _ => smV Sm.zero) (fun _ => []) := by
  refine enterM Tryz.func13 rfl Tryz.ntmps13 rfl hw ?_
  refine WC.seq ?_
  refine WC.region ?_
  refine WL.to (To.alloc (cs := Sm.zero.cells) zr37 rfl) rfl ?_
  intro b2
  refine WL.nil ?_
  refine WC.seq ?_
  refine WC.region ?_
  refine WL.to (To.alloc (cs := Sm.zero.cells) zr37 rfl) rfl ?_
  intro b3
  refine WL.nil ?_
  refine WC.seq ?_
  refine WC.seq ?_
  refine WC.region ?_
  refine WL.y (Yl.move rfl) rfl ?_
  refine WL.callC (xs := [.tmp 5]) (cap := []) rfl rfl en46 (by repeat' constructor) (fun w hw => all_nil w hw.left.here) rfl ?_
  rintro own -
  refine WL.nil ?_
  refine WC.block ?_
  refine WC.range (α := Unit) (lb := []) (xs := ysR []) (fun _ _ => [blkR b3 37 Sm.zero.cells]) (fun _ _ => True) () rfl en86 ysR_size rfl (by repeat constructor) trivial (by repeat' constructor) (fun l i x s hx => by simp [ysR] at hx) ?_
  rintro ⟨⟩ D -
  dsimp only [List.cons_append, List.nil_append]
  refine WC.seq ?_
  refine WC.region ?_
  refine WL.y (Yl.loadN ag37 rfl (by repeat constructor) (by rfl) (Sm.call rfl)) rfl ?_
  refine WL.sto (Sto.agg sz37 rfl rfl (by repeat constructor) (Sm.ones _) rfl (by rfl) (putAll rfl)) (fun _ h => nomatch h) ?_
  refine WL.nil ?_
  refine WC.ret ?_
  repeat (with_reducible (first | refine peelT ?_ | refine peelB ?_ | refine peelTX ?_ | refine peelBX ?_ | refine peelBN ?_ | refine peelBO rfl ?_))
  refine retM.of (.cons (by repeat constructor) .nil) ?_
  exact retC1 (.inr rfl) Tryz.results13 ag37 rfl (by repeat constructor) rfl fun w' h => ⟨(), trivial, rfl, h.sub (by repeat' constructor)⟩
theorem topNil_any (n : Int) (w : World) (hw : OK w (fpL []) [] w) : Fn Tryz.prog 42 [.nilFunc, .int .i64 n, .nilFunc] [] w (fun _ : Unit => True) (fun _ => .slice none 0 0) (fun _ => []) := by
  refine enterM Tryz.func42 rfl Tryz.ntmps42 rfl hw ?_
  refine WC.seq ?_
  refine WC.region ?_
  refine WL.to (To.box (cs := [.int .i64 n]) rfl rfl) rfl ?_
  intro b4
  refine WL.to (To.box (cs := [.nilFunc]) rfl rfl) rfl ?_
  intro b5
  refine WL.y (Yl.assign rfl) rfl ?_
  refine WL.nil ?_
  refine WC.seq ?_
  refine WC.seq ?_
  refine WC.region ?_
  refine WL.y (Yl.load on155 rfl (by repeat constructor) (by rfl)) rfl ?_
  refine WL.y (Yl.eqNilN (by kernel_rfl) rfl rfl) rfl ?_
  refine WL.know (t := 11) (b' := true) rfl (by first | rfl | (simp; done) | (simp; omega)) ?_
  refine WL.y (Yl.move rfl) rfl ?_
  refine WL.off rfl rfl rfl rfl ?_
  refine WL.off rfl rfl rfl rfl ?_
  refine WL.y (Yl.pickT rfl rfl) rfl ?_
  refine WL.nil ?_
  refine WC.condT rfl (by first | rfl | (simp; done) | (simp; omega)) ?_
  refine WC.seq ?_
  refine WC.region ?_
  refine WL.y (Yl.assign rfl) rfl ?_
  refine WL.nil ?_
  refine WC.ret ?_
  repeat (with_reducible (first | refine peelT ?_ | refine peelB ?_ | refine peelTX ?_ | refine peelBX ?_ | refine peelBN ?_ | refine peelBO rfl ?_))
  refine retM.of .nil ?_
  exact ret1 (.inr rfl) Tryz.results42 rfl fun w' h => ⟨(), trivial, rfl, h.sub (by repeat' constructor)⟩
/-- The document's records. -/
def rc1 : Rc := ⟨List.replicate 16 0, 3, false, 1, 5, 10, 25⟩
def rc2 : Rc := ⟨List.replicate 16 0, 3, false, 3, 30, 0, 90⟩
def rc3 : Rc := ⟨List.replicate 16 0, 1, true, 5, 40, 0, 41⟩
def thrL : List Rc := [rc1, rc2, rc3]
theorem rep0 : ∀ x ∈ List.replicate 16 (0 : Int), 0 ≤ x ∧ x < 256 := by decide
theorem thr_ok : ROk thrL := by
  intro r hr
  simp only [thrL, List.mem_cons, List.not_mem_nil, or_false] at hr
  rcases hr with rfl | rfl | rfl
  · exact ⟨rfl, rep0, ⟨by decide, by decide⟩, ⟨by decide, by decide⟩, ⟨by decide, by decide⟩, ⟨by decide, by decide⟩, ⟨by decide, by decide⟩⟩
  · exact ⟨rfl, rep0, ⟨by decide, by decide⟩, ⟨by decide, by decide⟩, ⟨by decide, by decide⟩, ⟨by decide, by decide⟩, ⟨by decide, by decide⟩⟩
  · exact ⟨rfl, rep0, ⟨by decide, by decide⟩, ⟨by decide, by decide⟩, ⟨by decide, by decide⟩, ⟨by decide, by decide⟩, ⟨by decide, by decide⟩⟩
theorem three_any (w : World) (hw : OK w (fpL []) [] w) : Fn Tryz.prog 39 [] [] w (fun _ : Nat => True) (fun b => .slice (some ⟨b, 0, none⟩) 3 3) (fun b => [rdR (.slice (some ⟨b, 0, none⟩) 3 3) 22 3 (vcs rcV thrL)]) := by
  refine enterF Tryz.func39 rfl Tryz.ntmps39 rfl hw ?_
  refine WC.seq ?_
  refine WC.region ?_
  refine WL.y (Yl.assign rfl) rfl ?_
  refine WL.nil ?_
  refine WC.seq ?_
  refine WC.region ?_
  refine WL.y (Yl.build rfl (cs := rc1.cells) (fun _ => by kernel_rfl)) rfl ?_
  refine WL.y (Yl.build rfl (cs := rc2.cells) (fun _ => by kernel_rfl)) rfl ?_
  refine WL.y (Yl.build rfl (cs := rc3.cells) (fun _ => by kernel_rfl)) rfl ?_
  refine WL.to (To.buildSlice (vs := [rcV rc1, rcV rc2, rcV rc3]) un33 zs45 rfl rfl (by intro v hv; simp at hv; rcases hv with rfl | rfl | rfl <;> rfl) (by decide) (by decide)) rfl ?_
  intro b4
  refine WL.view (fun w h => h.blkOwn (b := b4) (size := 22) (n := 3) (by repeat constructor) (by unfold maxLen; omega) rfl) ?_
  refine WL.y (Yl.assign rfl) rfl ?_
  refine WL.nil ?_
  refine WC.ret ?_
  repeat (with_reducible (first | refine peelT ?_ | refine peelB ?_ | refine peelTX ?_ | refine peelBX ?_ | refine peelBN ?_ | refine peelBO rfl ?_))
  exact ret1 (.inr rfl) Tryz.results39 rfl fun w' h => ⟨b4, trivial, rfl, OK.sub (h.readOnly (by repeat constructor)) (by repeat' constructor)⟩
def tkF (r : Rc) : Int := if r.en < r.bg then 0 else r.en - r.bg
theorem took_any (r : Rc) (hr : r.ok) (w : World) (hw : OK w (fpL []) [] w) : Fn Tryz.prog 73 [rcV r] [] w (fun _ : Unit => True) (fun _ => .int .u64 (tkF r)) (fun _ => []) := by
  have h := hr.len
  have hb := hr.bg
  have he := hr.en
  unfold U64 at hb he
  refine enterF Tryz.func73 rfl Tryz.ntmps73 rfl hw ?_
  refine WC.seq ?_
  refine WC.region ?_
  refine WL.to (To.box (cs := r.cells) rfl rfl) rfl ?_
  intro b1
  refine WL.y (Yl.assign rfl) rfl ?_
  refine WL.nil ?_
  refine WC.seq ?_
  refine WC.seq ?_
  refine WC.region ?_
  refine WL.y (Yl.field fo45_6 rfl) rfl ?_
  refine WL.y (Yl.load on34 rfl (by repeat constructor) (Rc.c21 h)) rfl ?_
  refine WL.y (Yl.field fo45_4 rfl) rfl ?_
  refine WL.y (Yl.load on34 rfl (by repeat constructor) (Rc.c19 h)) rfl ?_
  refine WL.y (Yl.lss rfl rfl) rfl ?_
  refine WL.nil ?_
  refine WC.condD rfl (fun g7 => ?_) (fun g7 => ?_)
  · refine WC.seq ?_
    refine WC.region ?_
    refine WL.y (Yl.assign rfl) rfl ?_
    refine WL.nil ?_
    refine WC.ret ?_
    repeat (with_reducible (first | refine peelT ?_ | refine peelB ?_ | refine peelTX ?_ | refine peelBX ?_ | refine peelBN ?_ | refine peelBO rfl ?_))
    exact ret1 (.inr rfl) Tryz.results73 rfl fun w' hh => ⟨(), trivial, by rw [tkF, if_pos g7], hh.sub (by repeat' constructor)⟩
  · refine WC.skip ?_
    refine WC.seq ?_
    refine WC.region ?_
    refine WL.y (Yl.field fo45_6 rfl) rfl ?_
    refine WL.y (Yl.load on34 rfl (by repeat constructor) (Rc.c21 h)) rfl ?_
    refine WL.y (Yl.field fo45_4 rfl) rfl ?_
    refine WL.y (Yl.load on34 rfl (by repeat constructor) (Rc.c19 h)) rfl ?_
    refine WL.y (Yl.sub (r := r.en - r.bg) rfl rfl (u64_in _ (by omega))) rfl ?_
    refine WL.y (Yl.assign rfl) rfl ?_
    refine WL.nil ?_
    refine WC.ret ?_
    repeat (with_reducible (first | refine peelT ?_ | refine peelB ?_ | refine peelTX ?_ | refine peelBX ?_ | refine peelBN ?_ | refine peelBO rfl ?_))
    exact ret1 (.inr rfl) Tryz.results73 rfl fun w' hh => ⟨(), trivial, by rw [tkF, if_neg g7], hh.sub (by repeat' constructor)⟩
theorem longer_any : AhR 31 tkF := by
  intro x y hx hy w hw
  have hx22 := Rc.cells_len hx.len
  have hy22 := Rc.cells_len hy.len
  refine enterF Tryz.func31 rfl Tryz.ntmps31 rfl hw ?_
  refine WC.seq ?_
  refine WC.region ?_
  refine WL.to (To.box (cs := x.cells) rfl rfl) rfl ?_
  intro b2
  refine WL.to (To.box (cs := y.cells) rfl rfl) rfl ?_
  intro b3
  refine WL.y (Yl.assign rfl) rfl ?_
  refine WL.nil ?_
  refine WC.seq ?_
  refine WC.drawAny (Hs := [blkR b2 45 x.cells, blkR b3 45 y.cells]) mixed (by kernel_rfl) ⟨_, (by repeat' constructor)⟩ ?_
  refine WD.tk 0 rfl (by kernel_rfl) rfl rfl (Yl.loadN ag45 rfl (by repeat constructor) (leBl (by rw [hx22]; omega)) (Rc.call hx.len)) rfl ?_
  refine WD.tk 2 rfl (by kernel_rfl) rfl rfl (Yl.loadN ag45 rfl (by repeat constructor) (leBl (by rw [hy22]; omega)) (Rc.call hy.len)) rfl ?_
  refine WD.one 1 (by kernel_rfl) ?_
  refine WO.callC (xs := [.tmp 5]) (cap := []) rfl .no rfl rfl en73 (by repeat' constructor) (fun w hw => took_any x hx w hw.left.here) rfl (fun _ => ⟨_, (by repeat' constructor)⟩) ?_
  rintro ⟨⟩ -
  refine WD.one 3 (by kernel_rfl) ?_
  refine WO.callC (xs := [.tmp 7]) (cap := []) rfl .no rfl rfl en73 (by repeat' constructor) (fun w hw => took_any y hy w hw.left.here) rfl (fun _ => ⟨_, (by repeat' constructor)⟩) ?_
  rintro ⟨⟩ -
  refine WD.tk 4 rfl (by kernel_rfl) rfl rfl (Yl.gtr rfl rfl) rfl ?_
  refine WD.tk 5 rfl (by kernel_rfl) rfl rfl (Yl.assign rfl) rfl ?_
  refine WD.done (by kernel_rfl) ?_
  refine WC.ret ?_
  repeat (with_reducible (first | refine peelT ?_ | refine peelB ?_ | refine peelTX ?_ | refine peelBX ?_ | refine peelBN ?_ | refine peelBO rfl ?_))
  exact ret1 (.inr rfl) Tryz.results31 rfl fun w' h => ⟨(), trivial, rfl, h.sub (by repeat' constructor)⟩
end Go.Proofs.YtbgimajbehodnaaGreatDoor

namespace Go.Proofs.YtbgimajbehodnaaGreatDoor
open Go Go.RowKit
/-! ### A sum's counts -/
theorem satF_mono {a b c d : Int} (h1 : a ≤ c) (h2 : b ≤ d) : satF a b ≤ satF c d := by
  unfold satF
  split <;> split <;> omega
theorem zip_getD {f : Int → Int → Int} {a b : List Int} {i : Nat} (ha : i < a.length) (hb : i < b.length) : (List.zipWith f a b).getD i 0 = f (a.getD i 0) (b.getD i 0) := by
  simp [List.getD_eq_getElem?_getD, List.getElem?_zipWith, List.getElem?_eq_getElem ha, List.getElem?_eq_getElem hb]
theorem one_oc (r : Rc) {i : Nat} (hi : i < 8) : (oneS r).oc.getD i 0 = if ocF r = i then 1 else 0 := by
  show ((List.replicate 8 (0 : Int)).set (ocF r) 1).getD i 0 = _
  rw [List.getD_eq_getElem?_getD, List.getElem?_set]
  by_cases h : ocF r = i
  · subst h
    rw [if_pos rfl, if_pos rfl, if_pos (by rw [List.length_replicate]; exact hi)]
    rfl
  · rw [if_neg h, if_neg h, List.getElem?_replicate, if_pos hi]
    rfl
structure Cnt (s : Sm) : Prop where
  o : s.o ≤ s.n
  t : s.t ≤ s.n
  m : s.oc.getD 3 0 ≤ s.n
theorem sumS_cnt {xs : List Rc} (h : ∀ r ∈ xs, r.ok) : Cnt (sumS xs) := by
  revert h
  refine snoc_ind' (p := fun xs => (∀ r ∈ xs, r.ok) → Cnt (sumS xs)) (fun _ => ⟨by decide, by decide, by decide⟩) (fun xs x ih h => ?_) xs
  have h1 := ih fun r hr => h r (List.mem_append_left _ hr)
  have hl := (sumS_ok fun r hr => h r (List.mem_append_left _ hr) : (sumS xs).ok).ol
  have hl2 := (oneS_ok (h x (by simp))).ol
  rw [sumS_snoc]
  refine ⟨satF_mono h1.o ?_, satF_mono h1.t ?_, ?_⟩
  · show (if x.out then (1 : Int) else 0) ≤ 1
    split <;> decide
  · show (if x.an = 0 then (0 : Int) else 1) ≤ 1
    split <;> decide
  · show (List.zipWith satF (sumS xs).oc (oneS x).oc).getD 3 0 ≤ satF (sumS xs).n 1
    rw [zip_getD (by omega) (by omega)]
    refine satF_mono h1.m ?_
    rw [one_oc x (by decide)]
    split <;> decide
theorem sumS_pos {xs : List Rc} (h : ∀ r ∈ xs, r.ok) (hne : xs ≠ []) : 0 < (sumS xs).n := by
  rcases List.eq_nil_or_concat xs with rfl | ⟨ss, s, rfl⟩
  · exact absurd rfl hne
  · rw [List.concat_eq_append, sumS_snoc]
    have hn := (sumS_ok fun r hr => h r (by rw [List.concat_eq_append]; exact List.mem_append_left _ hr) : (sumS ss).ok).n
    show 0 < satF (sumS ss).n 1
    unfold satF U64 at *
    split <;> omega
/-! ### A table's rows -/
def rwK (xs : List Rc) : List (Int × List Int) := (byV (fun r => r.peer) xs).map fun q => (q.1, smN q.2)
theorem byV_ne {key : Rc → Int} {xs : List Rc} {q : Int × Sm} (hq : q ∈ byV key xs) : ∃ k, selS key k xs ≠ [] ∧ q = (k, sumS (selS key k xs)) := by
  obtain ⟨k, hk, rfl⟩ := List.mem_map.1 hq
  obtain ⟨x, hx, rfl⟩ := (byK_mem key).1 hk
  exact ⟨key x, List.ne_nil_of_mem (List.mem_filter.2 ⟨hx, by simp⟩), rfl⟩
theorem rwK_good {xs : List Rc} (h : ∀ r ∈ xs, r.ok) : ∀ r ∈ rwK xs, RGd r.1 r.2 := by
  intro r hr
  obtain ⟨q, hq, rfl⟩ := List.mem_map.1 hr
  have hu := byV_u8 h q hq
  obtain ⟨k, hne, rfl⟩ := byV_ne hq
  have hs := selS_ok (fun r : Rc => r.peer) h k
  have hc := sumS_cnt hs
  exact ⟨hu.1, rfl, smN_ok hu.2, sumS_pos hs hne, hc.o, hc.t, hc.m⟩
theorem rwK_asc (xs : List Rc) : (rwK xs).Pairwise fun a b => a.1 < b.1 := by
  unfold rwK byV
  rw [List.map_map]
  exact List.pairwise_map.2 (byK_lt _ xs)
theorem rows_flat (l : List (Int × Sm)) : rowsI l = (l.map fun q => (q.1, smN q.2)).flatMap lnE := by
  unfold rowsI
  rw [List.flatMap_map]
  rfl
theorem tab_rows {xs : List Rc} (h : ∀ r ∈ xs, r.ok) : RowsOk (tabI xs) (rwK xs) := by
  obtain ⟨h1, h2⟩ := pre_head (rowsI (byV (fun r => r.peer) xs))
  refine ⟨h1, rwK_good h, rwK_asc xs, ?_⟩
  show cutI (headI ++ _) = _
  rw [h2, rows_flat]
  rfl
theorem RsOk.tab {l : List Int} {x : Option Addr × Nat} {rs ss : List (Int × List Int)} {ok : Bool} (h : RsOk l x rs ok) (hs : RowsOk l ss) : ok = true ∧ rs = ss := by
  cases ok with
  | false => exact absurd hs ((h.no rfl).1 ss)
  | true => exact ⟨rfl, (h.yes rfl).2.uniq hs.2⟩
/-! ### The document's records -/
def thS : Sm := ⟨3, 1, 1, [0, 1, 0, 1, 0, 1, 0, 0], 15, 15, 5, 90⟩
theorem thr_sum : sumS thrL = thS := rfl
theorem thr_top : topS tkF 1 thrL = [rc2] := rfl
theorem asc31 : asc [3, 1] = [1, 3] := by
  have hp : (asc [3, 1]).Perm [1, 3] := (asc_perm _).trans (List.Perm.swap 1 3 [])
  exact hp.eq_of_pairwise (fun a b _ _ h1 h2 => by omega) (asc_sorted _) (by decide)
theorem thr_key : byK (fun r => r.peer) thrL = [1, 3] := by
  have e : (byM (fun r => r.peer) thrL).map (·.1) = [3, 1] := rfl
  unfold byK
  rw [e, asc31]
def thR1 : List Int := [1, 1, 0, 0, 0, 0]
def thR3 : List Int := [2, 0, 1, 15, 15, 1]
theorem thr_rows : rwK thrL = [(1, thR1), (3, thR3)] := by
  unfold rwK byV
  rw [thr_key]
  rfl
theorem dec15 : decI 15 = [49, 53] := by rw [decI_big (by decide), decI_small (by decide)]; rfl
theorem dec0 : decI 0 = [48] := decI_small (by decide)
theorem dec1 : decI 1 = [49] := decI_small (by decide)
theorem dec2 : decI 2 = [50] := decI_small (by decide)
theorem dec3 : decI 3 = [51] := decI_small (by decide)
def thT : List Int := headI ++ [49, 32, 49, 32, 49, 32, 48, 32, 48, 32, 48, 32, 48, 10, 51, 32, 50, 32, 48, 32, 49, 32, 49, 53, 32, 49, 53, 32, 49, 10]
theorem thr_tab : tabI thrL = thT := by
  unfold tabI thT
  congr 1
  rw [rows_flat, show (byV (fun r => r.peer) thrL).map (fun q => (q.1, smN q.2)) = rwK thrL from rfl, thr_rows]
  show lineI 1 thR1 ++ (lineI 3 thR3 ++ []) = _
  unfold lineI numI thR1 thR3
  simp only [List.flatMap_cons, List.flatMap_nil, List.append_nil]
  rw [show Int.toNat 1 = 1 from rfl, show Int.toNat 0 = 0 from rfl, show Int.toNat 3 = 3 from rfl, show Int.toNat 2 = 2 from rfl, show Int.toNat 15 = 15 from rfl, dec0, dec1, dec2, dec3, dec15]
  rfl
theorem no_rows {ss : List (Int × List Int)} : ¬ RowsOk [] ss := fun h => by
  have := h.1
  cases this
theorem RsOk.none {x : Option Addr × Nat} {rs : List (Int × List Int)} {ok : Bool} (h : RsOk [] x rs ok) : ok = false ∧ rs = [] ∧ x = (none, 0) := by
  cases ok with
  | true => exact absurd (h.yes rfl) no_rows
  | false => exact ⟨rfl, (h.no rfl).2⟩
end Go.Proofs.YtbgimajbehodnaaGreatDoor

namespace Go.Proofs.YtbgimajbehodnaaGreatDoor
open Go Go.RowKit
def rwLeaf : List Leaf := some .u8 :: List.replicate 6 (some .u64)
def smLeaf : List Leaf := List.replicate 15 (some .u64)
theorem flRow : Flat Tryz.prog 70 rwLeaf := Flat.mk' 5 (by decide) (by kernel_rfl) (by kernel_rfl)
theorem flSum : Flat Tryz.prog 37 smLeaf := Flat.mk' 5 (by decide) (by kernel_rfl) (by kernel_rfl)
theorem fits64 {n : Nat} {xs : List Int} (h : xs.length = n) (hb : ∀ x ∈ xs, U64 x) : Fits1 (List.replicate n (some .u64)) (ints .u64 xs) := by
  induction xs generalizing n with
  | nil => subst h; simp [ints, Fits1]
  | cons x xs ih =>
    subst h
    exact ⟨⟨rfl, wf64 (hb x (by simp))⟩, ih rfl (fun y hy => hb y (by simp [hy]))⟩
theorem rw_fits {p : Int} {l : List Int} (hp : U8 p) (h : l.length = 6) (hb : ∀ x ∈ l, U64 x) : Fits1 rwLeaf (rwC p l) := ⟨⟨rfl, wf8 hp⟩, fits64 h hb⟩
theorem Sm.ints (s : Sm) : s.cells = ints .u64 (s.n :: s.o :: s.t :: (s.oc ++ [s.tk, s.lg, s.fi, s.la])) := by simp [Sm.cells, Go.Proofs.YtbgimajbehodnaaGreatDoor.ints]
theorem Sm.ok.fits {s : Sm} (h : s.ok) : Fits1 smLeaf s.cells := by
  rw [Sm.ints]
  refine fits64 (by simp [h.ol]) fun x hx => ?_
  simp only [List.mem_cons, List.mem_append, List.not_mem_nil, or_false] at hx
  rcases hx with rfl | rfl | rfl | hx | rfl | rfl | rfl | rfl
  · exact h.n
  · exact h.o
  · exact h.t
  · exact h.oc x hx
  · exact h.tk
  · exact h.lg
  · exact h.fi
  · exact h.la
theorem rc2_ok : rc2.ok := thr_ok rc2 (by simp [thrL])
theorem thR3_u : ∀ x ∈ thR3, U64 x := by
  intro x hx
  simp only [thR3, List.mem_cons, List.not_mem_nil, or_false] at hx
  rcases hx with rfl | rfl | rfl | rfl | rfl | rfl <;> exact ⟨by decide, by decide⟩
theorem th_fit : Fits1 rwLeaf (rwC 3 thR3) := rw_fits ⟨by decide, by decide⟩ rfl thR3_u
theorem th_r6 : ∀ r ∈ [((1 : Int), thR1), (3, thR3)], R6 r := by
  intro r hr
  simp only [List.mem_cons, List.not_mem_nil, or_false] at hr
  rcases hr with rfl | rfl <;> rfl
theorem thT_bytes : Bytes thT := thr_tab ▸ tabI_bytes thrL
set_option maxRecDepth 100000 in
set_option maxHeartbeats 3200000 in
theorem known_any (w : World) (hw : OK w (fpL [glR]) [glR] w) : Fn Tryz.prog 8 [] [glR] w (fun _ : Unit => True) (fun _ => .bool true) (fun _ => [glR]) := by
  refine enterM Tryz.func8 rfl Tryz.ntmps8 rfl hw ?_
  refine WC.seq ?_
  refine WC.region ?_
  refine WL.to (To.alloc (cs := [.bool false]) zr4 rfl) rfl ?_
  intro b0
  refine WL.nil ?_
  refine WC.seq ?_
  refine WC.region ?_
  refine WL.callC (xs := []) (cap := []) rfl rfl en39 (by repeat' constructor) (fun w hw => three_any w hw.left.here) rfl ?_
  rintro bt -
  obtain ⟨tv, htv⟩ : ∃ tv : Value, tv = .slice (some ⟨bt, 0, none⟩) 3 3 := ⟨_, rfl⟩
  rw [← htv]
  refine WL.y (Yl.assign rfl) rfl ?_
  refine WL.nil ?_
  refine WC.seq ?_
  refine WC.region ?_
  refine WL.y (Yl.move rfl) rfl ?_
  refine WL.view (fun w h => h.dup (r := rdR tv 22 3 (vcs rcV thrL)) (by repeat constructor) (fun _ h => h)) ?_
  refine WL.callC (xs := [.tmp 12]) (cap := []) rfl rfl en14 (by repeat' constructor) (fun w hw => val_any tv thrL thr_ok (by decide) w hw.left.here) rfl ?_
  rintro ⟨v1, o1⟩ -
  try dsimp only
  refine WL.callC (xs := [.tmp 13]) (cap := []) rfl rfl en13 (by repeat' constructor) (fun w hw => ofN_any 48 [.pointer (some ⟨v1, 0, none⟩)] o1 thrL thr_ok en48 w hw.left.here) rfl ?_
  rintro ⟨⟩ -
  rw [thr_sum]
  refine WL.to (To.alloc (cs := Sm.zero.cells) zr37 rfl) rfl ?_
  intro b2
  refine WL.sto (Sto.agg sz37 rfl rfl (by repeat constructor) (Sm.ones _) rfl (by rfl) (putAll rfl)) (fun _ h => nomatch h) ?_
  refine WL.nil ?_
  refine WC.seq ?_
  refine WC.seq ?_
  refine WC.region ?_
  refine WL.y (Yl.field fo37_0 rfl) rfl ?_
  refine WL.y (Yl.load on34 rfl (by repeat constructor) (Sm.g0 _)) rfl ?_
  refine WL.y (Yl.neq rfl rfl) rfl ?_
  refine WL.know (t := 17) (b' := false) rfl (by decide) ?_
  refine WL.nil ?_
  refine WC.condF rfl (by first | rfl | (simp; done) | (simp; omega)) ?_
  refine WC.skip ?_
  refine WC.seq ?_
  refine WC.region ?_
  refine WL.y (Yl.move rfl) rfl ?_
  refine WL.view (fun w h => h.dup (r := rdR tv 22 3 (vcs rcV thrL)) (by repeat constructor) (fun _ h => h)) ?_
  refine WL.callC (xs := [.tmp 18]) (cap := []) rfl rfl en14 (by repeat' constructor) (fun w hw => val_any tv thrL thr_ok (by decide) w hw.left.here) rfl ?_
  rintro ⟨v2, o2⟩ -
  try dsimp only
  refine WL.callC (xs := [.tmp 19, _, .func 31]) (cap := []) rfl rfl en30 (by repeat' constructor) (fun w hw => top_any 48 [.pointer (some ⟨v2, 0, none⟩)] o2 thrL thr_ok (by decide) en48 31 tkF longer_any en31 1 (by decide) w hw.left.here) rfl ?_
  rintro ⟨a20, c20⟩ -
  rw [thr_top]
  try dsimp only [List.cons_append, List.nil_append]
  refine WL.y (Yl.assign rfl) rfl ?_
  refine WL.nil ?_
  refine WC.seq ?_
  refine WC.region ?_
  refine WL.y (Yl.move rfl) rfl ?_
  refine WL.view (fun w h => h.dup (r := rdR tv 22 3 (vcs rcV thrL)) (by repeat constructor) (fun _ h => h)) ?_
  refine WL.callC (xs := [.tmp 21]) (cap := []) rfl rfl en14 (by repeat' constructor) (fun w hw => val_any tv thrL thr_ok (by decide) w hw.left.here) rfl ?_
  rintro ⟨v3, o3⟩ -
  try dsimp only
  refine WL.view (fun w h => h.dup (r := glR) (by repeat constructor) (fun _ h => h)) ?_
  refine WL.callC (xs := [.tmp 22]) (cap := []) rfl rfl en21 (by repeat' constructor) (fun w hw => table_any 48 [.pointer (some ⟨v3, 0, none⟩)] o3 thrL thr_ok (by decide) en48 w hw.left.here) rfl ?_
  rintro ⟨⟩ -
  rw [thr_tab]
  refine WL.y (Yl.assign rfl) rfl ?_
  refine WL.nil ?_
  refine WC.seq ?_
  refine WC.region ?_
  refine WL.y (Yl.move rfl) rfl ?_
  refine WL.callC (xs := [.tmp 25]) (cap := []) rfl rfl en20 (by repeat' constructor) (fun w hw => rows_any thT thT_bytes (by decide) w hw.left.here) rfl ?_
  rintro ⟨x26, rs26, ok26⟩ hR1
  dsimp only at hR1 ⊢
  obtain ⟨rfl, rfl⟩ := hR1.tab (thr_tab ▸ tab_rows thr_ok)
  rw [thr_rows]
  try dsimp only [List.cons_append, List.nil_append]
  refine WL.y (Yl.move rfl) rfl ?_
  refine WL.y (Yl.extract rfl rfl) rfl ?_
  refine WL.y (Yl.extract rfl rfl) rfl ?_
  refine WL.y (Yl.assign rfl) rfl ?_
  refine WL.y (Yl.assign rfl) rfl ?_
  refine WL.nil ?_
  refine WC.seq ?_
  refine WC.region ?_
  refine WL.callC (xs := [_]) (cap := []) rfl rfl en20 (by repeat' constructor) (fun w hw => rows_any [] (fun x (hx : x ∈ []) => nomatch hx) (by decide) w hw.left.here) rfl ?_
  rintro ⟨x30, rs30, ok30⟩ hR2
  dsimp only at hR2 ⊢
  obtain ⟨rfl, rfl, rfl⟩ := hR2.none
  try dsimp only [List.cons_append, List.nil_append]
  refine WL.y (Yl.move rfl) rfl ?_
  refine WL.y (Yl.extract rfl rfl) rfl ?_
  refine WL.y (Yl.extract rfl rfl) rfl ?_
  refine WL.y (Yl.assign rfl) rfl ?_
  refine WL.y (Yl.assign rfl) rfl ?_
  refine WL.nil ?_
  refine WC.seq ?_
  refine WC.region ?_
  refine WL.y (Yl.move rfl) rfl ?_
  refine WL.view (fun w h => h.dup (r := rdR tv 22 3 (vcs rcV thrL)) (by repeat constructor) (fun _ h => h)) ?_
  refine WL.callC (xs := [.tmp 34]) (cap := []) rfl rfl en14 (by repeat' constructor) (fun w hw => val_any tv thrL thr_ok (by decide) w hw.left.here) rfl ?_
  rintro ⟨v4, o4⟩ -
  try dsimp only
  refine WL.callC (xs := [.tmp 35, _]) (cap := []) rfl rfl en41 (by repeat' constructor) (fun w hw => byN_any 48 [.pointer (some ⟨v4, 0, none⟩)] w hw.left.here) rfl ?_
  rintro ⟨y1, y2, o5⟩ -
  try dsimp only
  refine WL.callC (xs := [.tmp 36, _]) (cap := []) rfl rfl en40 (by repeat' constructor) (fun w hw => sumsN_any 78 [.pointer (some ⟨y1, 0, none⟩), .pointer (some ⟨y2, 0, none⟩)] o5 en78 9 w hw.left.here) rfl ?_
  rintro ⟨⟩ -
  refine WL.y (Yl.move rfl) rfl ?_
  refine WL.y (Yl.extract rfl rfl) rfl ?_
  refine WL.y (Yl.extract rfl rfl) rfl ?_
  refine WL.y (Yl.assign rfl) rfl ?_
  refine WL.y (Yl.assign rfl) rfl ?_
  refine WL.nil ?_
  refine WC.seq ?_
  refine WC.seq ?_
  refine WC.region ?_
  refine WL.callC (xs := [_, _, _]) (cap := []) rfl rfl en28 (by repeat' constructor) (fun w hw => within_nil 0 9 w hw.left.here) rfl ?_
  rintro ⟨n1, n2, n3, o6⟩ -
  try dsimp only
  refine WL.nil ?_
  refine WC.block ?_
  refine WC.range (α := Unit) (lb := [.pointer (some ⟨n1, 0, none⟩), .pointer (some ⟨n2, 0, none⟩), .pointer (some ⟨n3, 0, none⟩)]) (xs := ysR []) (fun _ _ => [blkR b0 4 [.bool false]]) (fun _ _ => True) () rfl en71 ysR_size rfl (by repeat constructor) trivial (by repeat' constructor) (fun l i x s hx => by simp [ysR] at hx) ?_
  rintro ⟨⟩ D -
  try dsimp only [List.cons_append, List.nil_append]
  refine WC.seq ?_
  refine WC.drawLast 86 (Hs := [blkR b2 37 thS.cells, rdR tv 22 3 (vcs rcV thrL), ownR (.slice a20 [rc2].length c20) 45 22 [rc2].length (vcs rcV [rc2]), ownR (rwB x26 [(1, thR1), (3, thR3)]) 70 7 [((1 : Int), thR1), (3, thR3)].length (vcs rwE [(1, thR1), (3, thR3)])]) rfl rfl mixed (by kernel_rfl) ⟨_, (by repeat' constructor)⟩ ?_
  try dsimp only [List.dropLast]
  refine WD.tk 0 rfl (by kernel_rfl) rfl rfl (Yl.field fo37_0 rfl) rfl ?_
  refine WD.tk 1 rfl (by kernel_rfl) rfl rfl (Yl.load on34 rfl (by repeat constructor) (Sm.g0 _)) rfl ?_
  refine WD.tk 2 rfl (by kernel_rfl) rfl rfl (Yl.eql rfl rfl) rfl ?_
  refine WD.know (t := 44) (b' := true) rfl (by first | rfl | (simp; done) | (simp; omega)) ?_
  refine WD.tk 3 rfl (by kernel_rfl) rfl rfl (Yl.move rfl) rfl ?_
  refine WD.takeOn 4 rfl (by kernel_rfl) (by kernel_rfl) (by kernel_rfl) rfl rfl rfl rfl (Yl.field fo37_1 rfl) rfl ?_
  refine WD.takeOn 5 rfl (by kernel_rfl) (by kernel_rfl) (by kernel_rfl) rfl rfl rfl rfl (Yl.load on34 rfl (by repeat constructor) (Sm.g1 _)) rfl ?_
  refine WD.takeOn 6 rfl (by kernel_rfl) (by kernel_rfl) (by kernel_rfl) rfl rfl rfl rfl (Yl.eql rfl rfl) rfl ?_
  refine WD.know (t := 48) (b' := true) rfl (by first | rfl | (simp; done) | (simp; omega)) ?_
  refine WD.tk 7 rfl (by kernel_rfl) rfl rfl (Yl.pickT rfl rfl) rfl ?_
  refine WD.tk 8 rfl (by kernel_rfl) rfl rfl (Yl.move rfl) rfl ?_
  refine WD.takeOn 9 rfl (by kernel_rfl) (by kernel_rfl) (by kernel_rfl) rfl rfl rfl rfl (Yl.field fo37_2 rfl) rfl ?_
  refine WD.takeOn 10 rfl (by kernel_rfl) (by kernel_rfl) (by kernel_rfl) rfl rfl rfl rfl (Yl.load on34 rfl (by repeat constructor) (Sm.g2 _)) rfl ?_
  refine WD.takeOn 11 rfl (by kernel_rfl) (by kernel_rfl) (by kernel_rfl) rfl rfl rfl rfl (Yl.eql rfl rfl) rfl ?_
  refine WD.know (t := 53) (b' := true) rfl (by first | rfl | (simp; done) | (simp; omega)) ?_
  refine WD.tk 12 rfl (by kernel_rfl) rfl rfl (Yl.pickT rfl rfl) rfl ?_
  refine WD.tk 13 rfl (by kernel_rfl) rfl rfl (Yl.move rfl) rfl ?_
  refine WD.takeOn 14 rfl (by kernel_rfl) (by kernel_rfl) (by kernel_rfl) rfl rfl rfl rfl (Yl.field fo37_4 rfl) rfl ?_
  refine WD.takeOn 15 rfl (by kernel_rfl) (by kernel_rfl) (by kernel_rfl) rfl rfl rfl rfl (Yl.load on34 rfl (by repeat constructor) (Sm.g11 rfl)) rfl ?_
  refine WD.takeOn 16 rfl (by kernel_rfl) (by kernel_rfl) (by kernel_rfl) rfl rfl rfl rfl (Yl.eql rfl rfl) rfl ?_
  refine WD.know (t := 58) (b' := true) rfl (by first | rfl | (simp; done) | (simp; omega)) ?_
  refine WD.tk 17 rfl (by kernel_rfl) rfl rfl (Yl.pickT rfl rfl) rfl ?_
  refine WD.tk 18 rfl (by kernel_rfl) rfl rfl (Yl.move rfl) rfl ?_
  refine WD.takeOn 19 rfl (by kernel_rfl) (by kernel_rfl) (by kernel_rfl) rfl rfl rfl rfl (Yl.field fo37_5 rfl) rfl ?_
  refine WD.takeOn 20 rfl (by kernel_rfl) (by kernel_rfl) (by kernel_rfl) rfl rfl rfl rfl (Yl.load on34 rfl (by repeat constructor) (Sm.g12 rfl)) rfl ?_
  refine WD.takeOn 21 rfl (by kernel_rfl) (by kernel_rfl) (by kernel_rfl) rfl rfl rfl rfl (Yl.eql rfl rfl) rfl ?_
  refine WD.know (t := 63) (b' := true) rfl (by first | rfl | (simp; done) | (simp; omega)) ?_
  refine WD.tk 22 rfl (by kernel_rfl) rfl rfl (Yl.pickT rfl rfl) rfl ?_
  refine WD.tk 23 rfl (by kernel_rfl) rfl rfl (Yl.move rfl) rfl ?_
  refine WD.takeOn 24 rfl (by kernel_rfl) (by kernel_rfl) (by kernel_rfl) rfl rfl rfl rfl (Yl.field fo37_6 rfl) rfl ?_
  refine WD.takeOn 25 rfl (by kernel_rfl) (by kernel_rfl) (by kernel_rfl) rfl rfl rfl rfl (Yl.load on34 rfl (by repeat constructor) (Sm.g13 rfl)) rfl ?_
  refine WD.takeOn 26 rfl (by kernel_rfl) (by kernel_rfl) (by kernel_rfl) rfl rfl rfl rfl (Yl.eql rfl rfl) rfl ?_
  refine WD.know (t := 68) (b' := true) rfl (by first | rfl | (simp; done) | (simp; omega)) ?_
  refine WD.tk 27 rfl (by kernel_rfl) rfl rfl (Yl.pickT rfl rfl) rfl ?_
  refine WD.tk 28 rfl (by kernel_rfl) rfl rfl (Yl.move rfl) rfl ?_
  refine WD.takeOn 29 rfl (by kernel_rfl) (by kernel_rfl) (by kernel_rfl) rfl rfl rfl rfl (Yl.field fo37_7 rfl) rfl ?_
  refine WD.takeOn 30 rfl (by kernel_rfl) (by kernel_rfl) (by kernel_rfl) rfl rfl rfl rfl (Yl.load on34 rfl (by repeat constructor) (Sm.g14 rfl)) rfl ?_
  refine WD.takeOn 31 rfl (by kernel_rfl) (by kernel_rfl) (by kernel_rfl) rfl rfl rfl rfl (Yl.eql rfl rfl) rfl ?_
  refine WD.know (t := 73) (b' := true) rfl (by first | rfl | (simp; done) | (simp; omega)) ?_
  refine WD.tk 32 rfl (by kernel_rfl) rfl rfl (Yl.pickT rfl rfl) rfl ?_
  refine WD.tk 33 rfl (by kernel_rfl) rfl rfl (Yl.move rfl) rfl ?_
  refine WD.takeOn 34 rfl (by kernel_rfl) (by kernel_rfl) (by kernel_rfl) rfl rfl rfl rfl (Yl.move rfl) rfl ?_
  refine WD.takeOn 35 rfl (by kernel_rfl) (by kernel_rfl) (by kernel_rfl) rfl rfl rfl rfl (Yl.len un33 rfl) rfl ?_
  refine WD.takeOn 36 rfl (by kernel_rfl) (by kernel_rfl) (by kernel_rfl) rfl rfl rfl rfl (Yl.eql rfl rfl) rfl ?_
  refine WD.know (t := 78) (b' := true) rfl (by first | rfl | (simp; done) | (simp; omega)) ?_
  refine WD.tk 37 rfl (by kernel_rfl) rfl rfl (Yl.pickT rfl rfl) rfl ?_
  refine WD.tk 38 rfl (by kernel_rfl) rfl rfl (Yl.move rfl) rfl ?_
  refine WD.takeOn 39 rfl (by kernel_rfl) (by kernel_rfl) (by kernel_rfl) rfl rfl rfl rfl (Yl.move rfl) rfl ?_
  refine WD.takeOn 40 rfl (by kernel_rfl) (by kernel_rfl) (by kernel_rfl) rfl rfl rfl rfl (Yl.index (j := 0) un33 sz45 rfl rfl (Reads.of (r := ownR (.slice a20 [rc2].length c20) 45 22 [rc2].length (vcs rcV [rc2])) RdOf.own (by repeat constructor)) rfl (by decide)) rfl ?_
  refine WD.takeOn 41 rfl (by kernel_rfl) (by kernel_rfl) (by kernel_rfl) rfl rfl rfl rfl (Yl.loadV (j := 0) (u := rc2) vtR (xs := [rc2]) (fun r hr => by rw [List.mem_singleton.1 hr]; exact rc2_ok) rfl (Reads.of (r := ownR (.slice a20 [rc2].length c20) 45 22 [rc2].length (vcs rcV [rc2])) RdOf.own (by repeat constructor)) rfl rfl) rfl ?_
  refine WD.takeOn 42 rfl (by kernel_rfl) (by kernel_rfl) (by kernel_rfl) rfl rfl rfl rfl (Yl.move rfl) rfl ?_
  refine WD.takeOn 43 rfl (by kernel_rfl) (by kernel_rfl) (by kernel_rfl) rfl rfl rfl rfl (Yl.index (j := 1) un33 sz45 rfl rfl (Reads.of (r := rdR tv 22 3 (vcs rcV thrL)) RdOf.rd' (by repeat constructor)) rfl (by omega)) rfl ?_
  refine WD.takeOn 44 rfl (by kernel_rfl) (by kernel_rfl) (by kernel_rfl) rfl rfl rfl rfl (Yl.loadV (j := 1) (u := rc2) vtR (xs := thrL) thr_ok rfl (Reads.of (r := rdR tv 22 3 (vcs rcV thrL)) RdOf.rd' (by repeat constructor)) rfl rfl) rfl ?_
  refine WD.takeOn 45 rfl (by kernel_rfl) (by kernel_rfl) (by kernel_rfl) rfl rfl rfl rfl (Yl.eqA (xs := rc2.cells) (ys := rc2.cells) flRec rfl rfl rc2_ok.fits rc2_ok.fits) rfl ?_
  refine WD.know (t := 87) (b' := true) rfl (eqV_self _) ?_
  refine WD.tk 46 rfl (by kernel_rfl) rfl rfl (Yl.pickT rfl rfl) rfl ?_
  refine WD.tk 47 rfl (by kernel_rfl) rfl rfl (Yl.move rfl) rfl ?_
  refine WD.takeOn 48 rfl (by kernel_rfl) (by kernel_rfl) (by kernel_rfl) rfl rfl rfl rfl (Yl.move rfl) rfl ?_
  refine WD.takeOn 49 rfl (by kernel_rfl) (by kernel_rfl) (by kernel_rfl) rfl rfl rfl rfl (Yl.sEqT (xs := thT) (ys := thT) thT_bytes thT_bytes rfl rfl) rfl ?_
  refine WD.know (t := 91) (b' := true) rfl (decide_eq_true rfl) ?_
  refine WD.tk 50 rfl (by kernel_rfl) rfl rfl (Yl.pickT rfl rfl) rfl ?_
  refine WD.tk 51 rfl (by kernel_rfl) rfl rfl (Yl.move rfl) rfl ?_
  refine WD.takeOn 52 rfl (by kernel_rfl) (by kernel_rfl) (by kernel_rfl) rfl rfl rfl rfl (Yl.move rfl) rfl ?_
  refine WD.takeOn 53 rfl (by kernel_rfl) (by kernel_rfl) (by kernel_rfl) rfl rfl rfl rfl (Yl.len un57 rfl) rfl ?_
  refine WD.takeOn 54 rfl (by kernel_rfl) (by kernel_rfl) (by kernel_rfl) rfl rfl rfl rfl (Yl.eql rfl rfl) rfl ?_
  refine WD.know (t := 96) (b' := true) rfl (by first | rfl | (simp; done) | (simp; omega)) ?_
  refine WD.tk 55 rfl (by kernel_rfl) rfl rfl (Yl.pickT rfl rfl) rfl ?_
  refine WD.tk 56 rfl (by kernel_rfl) rfl rfl (Yl.move rfl) rfl ?_
  refine WD.takeOn 57 rfl (by kernel_rfl) (by kernel_rfl) (by kernel_rfl) rfl rfl rfl rfl (Yl.move rfl) rfl ?_
  refine WD.takeOn 58 rfl (by kernel_rfl) (by kernel_rfl) (by kernel_rfl) rfl rfl rfl rfl (Yl.index (j := 1) un57 sz70 rfl rfl (Reads.of (r := ownR (rwB x26 [(1, thR1), (3, thR3)]) 70 7 [((1 : Int), thR1), (3, thR3)].length (vcs rwE [(1, thR1), (3, thR3)])) RdOf.own (by repeat constructor)) rfl (by decide)) rfl ?_
  refine WD.takeOn 59 rfl (by kernel_rfl) (by kernel_rfl) (by kernel_rfl) rfl rfl rfl rfl (Yl.loadV (j := 1) (u := ((3 : Int), thR3)) vtW (xs := [((1 : Int), thR1), (3, thR3)]) th_r6 rfl (Reads.of (r := ownR (rwB x26 [(1, thR1), (3, thR3)]) 70 7 [((1 : Int), thR1), (3, thR3)].length (vcs rwE [(1, thR1), (3, thR3)])) RdOf.own (by repeat constructor)) rfl rfl) rfl ?_
  refine WD.takeOn 60 rfl (by kernel_rfl) (by kernel_rfl) (by kernel_rfl) rfl rfl rfl rfl (Yl.build rfl (cs := rwC 3 thR3) (fun _ => by kernel_rfl)) rfl ?_
  refine WD.takeOn 61 rfl (by kernel_rfl) (by kernel_rfl) (by kernel_rfl) rfl rfl rfl rfl (Yl.eqA (xs := rwC 3 thR3) (ys := rwC 3 thR3) flRow rfl rfl th_fit th_fit) rfl ?_
  refine WD.know (t := 103) (b' := true) rfl (eqV_self _) ?_
  refine WD.tk 62 rfl (by kernel_rfl) rfl rfl (Yl.pickT rfl rfl) rfl ?_
  refine WD.tk 63 rfl (by kernel_rfl) rfl rfl (Yl.move rfl) rfl ?_
  refine WD.takeOn 64 rfl (by kernel_rfl) (by kernel_rfl) (by kernel_rfl) rfl rfl rfl rfl (Yl.move rfl) rfl ?_
  refine WD.takeOn 65 rfl (by kernel_rfl) (by kernel_rfl) (by kernel_rfl) rfl rfl rfl rfl (Yl.eql rfl rfl) rfl ?_
  refine WD.know (t := 107) (b' := true) rfl (by first | rfl | (simp; done) | (simp; omega)) ?_
  refine WD.tk 66 rfl (by kernel_rfl) rfl rfl (Yl.pickT rfl rfl) rfl ?_
  refine WD.tk 67 rfl (by kernel_rfl) rfl rfl (Yl.move rfl) rfl ?_
  refine WD.takeOn 68 rfl (by kernel_rfl) (by kernel_rfl) (by kernel_rfl) rfl rfl rfl rfl (Yl.move rfl) rfl ?_
  refine WD.takeOn 69 rfl (by kernel_rfl) (by kernel_rfl) (by kernel_rfl) rfl rfl rfl rfl (Yl.eql rfl rfl) rfl ?_
  refine WD.know (t := 111) (b' := true) rfl (by first | rfl | (simp; done) | (simp; omega)) ?_
  refine WD.tk 70 rfl (by kernel_rfl) rfl rfl (Yl.pickT rfl rfl) rfl ?_
  refine WD.tk 71 rfl (by kernel_rfl) rfl rfl (Yl.move rfl) rfl ?_
  refine WD.takeOn 72 rfl (by kernel_rfl) (by kernel_rfl) (by kernel_rfl) rfl rfl rfl rfl (Yl.move rfl) rfl ?_
  refine WD.takeOn 73 rfl (by kernel_rfl) (by kernel_rfl) (by kernel_rfl) rfl rfl rfl rfl (Yl.len un92 rfl) rfl ?_
  refine WD.takeOn 74 rfl (by kernel_rfl) (by kernel_rfl) (by kernel_rfl) rfl rfl rfl rfl (Yl.eql rfl rfl) rfl ?_
  refine WD.know (t := 116) (b' := true) rfl (by first | rfl | (simp; done) | (simp; omega)) ?_
  refine WD.tk 75 rfl (by kernel_rfl) rfl rfl (Yl.pickT rfl rfl) rfl ?_
  refine WD.tk 76 rfl (by kernel_rfl) rfl rfl (Yl.move rfl) rfl ?_
  refine WD.takeOn 78 rfl (by kernel_rfl) (by kernel_rfl) (by kernel_rfl) rfl rfl rfl rfl (Yl.build rfl (cs := Sm.zero.cells) (fun _ => by kernel_rfl)) rfl ?_
  refine WD.one 77 (by kernel_rfl) ?_
  refine WO.callC (xs := [_]) (cap := []) rfl (.on rfl rfl) rfl rfl en13 (by repeat' constructor) (fun w hw => ofNil_any w hw.left.here) rfl (fun _ => ⟨_, (by repeat' constructor)⟩) ?_
  rintro ⟨⟩ -
  refine WD.takeOn 79 rfl (by kernel_rfl) (by kernel_rfl) (by kernel_rfl) rfl rfl rfl rfl (Yl.eqA (xs := Sm.zero.cells) (ys := Sm.zero.cells) flSum rfl rfl Sm.zero_ok.fits Sm.zero_ok.fits) rfl ?_
  refine WD.know (t := 121) (b' := true) rfl (eqV_self _) ?_
  refine WD.tk 80 rfl (by kernel_rfl) rfl rfl (Yl.pickT rfl rfl) rfl ?_
  refine WD.tk 81 rfl (by kernel_rfl) rfl rfl (Yl.move rfl) rfl ?_
  refine WD.one 82 (by kernel_rfl) ?_
  refine WO.callC (xs := [_, _, _]) (cap := []) rfl (.on rfl rfl) rfl rfl en42 (by repeat' constructor) (fun w hw => topNil_any 3 w hw.left.here) rfl (fun _ => ⟨_, (by repeat' constructor)⟩) ?_
  rintro ⟨⟩ -
  refine WD.takeOn 83 rfl (by kernel_rfl) (by kernel_rfl) (by kernel_rfl) rfl rfl rfl rfl (Yl.len un92 rfl) rfl ?_
  refine WD.takeOn 84 rfl (by kernel_rfl) (by kernel_rfl) (by kernel_rfl) rfl rfl rfl rfl (Yl.eql rfl rfl) rfl ?_
  refine WD.know (t := 126) (b' := true) rfl (by first | rfl | (simp; done) | (simp; omega)) ?_
  refine WD.tk 85 rfl (by kernel_rfl) rfl rfl (Yl.pickT rfl rfl) rfl ?_
  refine WD.done (by kernel_rfl) ?_
  refine ⟨_, (Sto.one sz4 rfl rfl (by repeat constructor) rfl (by rfl) (by rfl)), ?_⟩
  refine WC.ret ?_
  repeat (with_reducible (first | refine peelT ?_ | refine peelB ?_ | refine peelTX ?_ | refine peelBX ?_ | refine peelBN ?_ | refine peelBO rfl ?_))
  refine retM.of (.cons (by repeat constructor) .nil) ?_
  exact retV1 (.inr rfl) Tryz.results8 on4 rfl (by repeat constructor) fun w' h => ⟨(), trivial, rfl, h.sub (by repeat' constructor)⟩
end Go.Proofs.YtbgimajbehodnaaGreatDoor
