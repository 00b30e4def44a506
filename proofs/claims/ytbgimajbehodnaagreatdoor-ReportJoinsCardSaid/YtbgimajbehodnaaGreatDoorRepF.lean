/- The longest ones of records: the walks. -/
import Derived.Test.YtbgimajbehodnaaGreatDoorRepC
import Derived.Test.YtbgimajbehodnaaGreatDoorRepQ
import Derived.Test.YtbgimajbehodnaaGreatDoorLibQ
namespace Go.Proofs.YtbgimajbehodnaaGreatDoor
open Go Go.RowKit
/-- A function that tells of two whether the first has the greater key. -/
def AhR (ga : Nat) (key : Rc → Int) : Prop := ∀ (x y : Rc), x.ok → y.ok → ∀ w, OK w (fpL []) [] w → Fn Tryz.prog ga [rcV x, rcV y] [] w (fun _ : Unit => True) (fun _ => .bool (decide (key y < key x))) (fun _ => [])
theorem flat1 {l : List Value} : flat [.agg l.toArray] = l := by simp [flat, Value.cells]
theorem desc_take {α : Type} {key : α → Int} {l : List α} {k : Nat} {x y : α} (hd : Desc key l) (hy : l[k]? = some y) (hxy : key x ≤ key y) : ∀ z ∈ l.take (k + 1), key x ≤ key z := by
  intro z hz
  obtain ⟨i, hi, rfl⟩ := List.getElem_of_mem hz
  rw [List.length_take] at hi
  obtain ⟨hk, rfl⟩ := List.getElem?_eq_some_iff.1 hy
  rw [List.getElem_take]
  by_cases e : i = k
  · subst e; exact hxy
  · have := List.pairwise_iff_getElem.1 hd i k (by omega) hk (by omega)
    omega
theorem drop_pred {α : Type} {l : List α} {k : Nat} {y : α} (hk : 0 < k) (hy : l[k - 1]? = some y) : l.drop (k - 1) = y :: l.drop k := by
  obtain ⟨h, rfl⟩ := List.getElem?_eq_some_iff.1 hy
  rw [List.drop_eq_getElem_cons h, show k - 1 + 1 = k by omega]
theorem insD_ok {key : Rc → Int} {x : Rc} {l : List Rc} (hx : x.ok) (h : ROk l) : ROk (insD key x l) := fun r hr => by
  rcases List.mem_cons.1 ((insD_perm key x l).mem_iff.1 hr) with rfl | hr
  · exact hx
  · exact h r hr
theorem topS_ok {key : Rc → Int} {n : Nat} {l : List Rc} (h : ROk l) : ROk (topS key n l) := fun r hr => by
  rw [topS_eq] at hr
  exact h r ((srt_perm key l).mem_iff.1 (List.mem_of_mem_take hr))
theorem OK.cutG {w0 : World} {S : Pm} {H F : List Res} {w : World} {e : TypeId} {s : Nat} {ao : Option Addr} {n cap : Nat} {cs : List Value} (h : OK w0 S H w) {hh : Nat} {cs' : List Value} (t : Take1 H (ownR (.slice ao n cap) e s n cs) F) (h3 : hh ≤ n) (h4 : n ≤ cap) (he : cs.take (hh * s) = cs') :
    OK w0 S (ownR (.slice ao hh cap) e s hh cs' :: F) w := by
  have := h.subG t (l := 0) (hh := hh) (m := cap) (Nat.zero_le _) (by omega) (Nat.le_refl _) h3 (cs' := cs') (by rw [Nat.zero_mul, List.drop_zero, Nat.sub_zero]; exact he)
  rwa [sub0, Nat.sub_zero] at this
set_option maxRecDepth 100000 in
set_option maxHeartbeats 1600000 in
theorem top_any (gf : Nat) (lb : List Value) (own : Nat → Prop) (xs : List Rc) (hG : ROk xs) (hl : xs.length ≤ 1000000) (eg : ∀ args w, (callFunc gf args).run Tryz.prog w = .ok (.enter gf args) w) (ga : Nat) (key : Rc → Int) (ha : AhR ga key) (ega : ∀ args w, (callFunc ga args).run Tryz.prog w = .ok (.enter ga args) w)
    (n : Nat) (hn : 1 ≤ n) (w : World) (hw : OK w (fpL [itR Tryz.prog gf lb own (ysR xs)]) [itR Tryz.prog gf lb own (ysR xs)] w) :
    Fn Tryz.prog 30 [.func (.func gf) #[] lb.toArray, .int .i64 (n : Int), .func (.func ga) #[] #[]] [itR Tryz.prog gf lb own (ysR xs)] w (fun _ : Option Addr × Nat => True) (fun y => .slice y.1 (topS key n xs).length y.2) (fun y => [ownR (.slice y.1 (topS key n xs).length y.2) 45 22 (topS key n xs).length (vcs rcV (topS key n xs))]) := by
  refine enterM Tryz.func30 rfl Tryz.ntmps30 rfl hw ?_
  refine WC.seq ?_
  refine WC.region ?_
  refine WL.to (To.box (cs := [.int .i64 (n : Int)]) rfl rfl) rfl ?_
  intro b4
  refine WL.to (To.box (cs := [.func (.func ga) #[] #[]]) rfl rfl) rfl ?_
  intro b5
  refine WL.y (Yl.assign rfl) rfl ?_
  refine WL.nil ?_
  refine WC.seq ?_
  refine WC.seq ?_
  refine WC.region ?_
  refine WL.y (Yl.load on79 rfl (by repeat constructor) (by rfl)) rfl ?_
  refine WL.y (Yl.eqNilF (by kernel_rfl) rfl rfl) rfl ?_
  refine WL.know (t := 11) (b' := false) rfl (by first | rfl | (simp; done) | (simp; omega)) ?_
  refine WL.y (Yl.move rfl) rfl ?_
  refine WL.on rfl rfl ?_
  refine WL.y (Yl.load on3 rfl (by repeat constructor) (by rfl)) rfl ?_
  refine WL.on rfl rfl ?_
  refine WL.y (Yl.lss rfl rfl) rfl ?_
  refine WL.know (t := 14) (b' := false) rfl (by simp; omega) ?_
  refine WL.y (Yl.pickF rfl rfl) rfl ?_
  refine WL.nil ?_
  refine WC.condF rfl (by first | rfl | (simp; done) | (simp; omega)) ?_
  refine WC.skip ?_
  refine WC.seq ?_
  refine WC.region ?_
  refine WL.to (To.alloc (cs := [.slice none 0 0]) zr33 rfl) rfl ?_
  intro b7
  refine WL.nil ?_
  refine WC.seq ?_
  refine WC.seq ?_
  refine WC.region ?_
  refine WL.y (Yl.move rfl) rfl ?_
  refine WL.callC (xs := [.tmp 16]) (cap := []) rfl rfl en46 (by repeat' constructor) (fun w hw => all_any gf lb w hw.left.here) rfl ?_
  rintro ⟨⟩ -
  refine WL.nil ?_
  refine WC.block ?_
  refine WC.view (fun w h => h.addNil 45 22) ?_
  refine WC.range (α := Option Addr × Nat) (lb := lb) (xs := ysR xs) (fun i s => [blkR b4 3 [.int .i64 (n : Int)], blkR b5 79 [.func (.func ga) #[] #[]], blkR b7 33 [.slice s.1 (topS key n (xs.take i)).length s.2], ownR (.slice s.1 (topS key n (xs.take i)).length s.2) 45 22 (topS key n (xs.take i)).length (vcs rcV (topS key n (xs.take i)))]) (fun _ _ => True) (none, 0) rfl eg ysR_size rfl (by repeat constructor) trivial (by repeat' constructor) ?_ ?_
  · rintro l2 i y ⟨ao, ca⟩ hx - W
    dsimp only
    obtain ⟨x, hx0, rfl⟩ := ysR_at hx
    have hil := (List.getElem?_eq_some_iff.1 hx0).1
    have hxo := hG.get hx0
    have h22 := Rc.cells_len hxo.len
    have hnx : xs.take (i + 1) = xs.take i ++ [x] := (take_snoc _ _ _ hx0).symm
    have hto : ROk (xs.take i) := fun r hr => hG r (List.mem_of_mem_take hr)
    have hT := topS_ok (key := key) (n := n) hto
    have hTd := topS_desc key n (xs.take i)
    have hTl : (topS key n (xs.take i)).length ≤ i := by rw [topS_len, List.length_take]; omega
    rw [hnx, topS_snoc]
    generalize topS key n (xs.take i) = T at hT hTd hTl ⊢
    show WC _ _ _ ((18, .agg x.cells.toArray) :: _) _ _
    refine WC.region ?_
    refine WL.to (To.alloc (cs := Rc.zero.cells) zr45 rfl) rfl ?_
    intro b8
    refine WL.sto (Sto.agg sz45 rfl rfl (by repeat constructor) (Rc.ones _) h22 (by rfl) (Rc.all (r := Rc.zero) rfl x.cells h22)) (fun _ h => nomatch h) ?_
    refine WL.nil ?_
    repeat (with_reducible (first | refine peelT ?_ | refine peelB ?_ | refine peelTX ?_ | refine peelBX ?_ | refine peelBN ?_ | refine peelBO rfl ?_))
    refine fun W2 => ?_
    refine WC.block ?_
    refine WC.seq ?_
    refine WC.region ?_
    refine WL.y (Yl.load on33 rfl (by repeat constructor) (by rfl)) rfl ?_
    refine WL.y (Yl.len un33 rfl) rfl ?_
    refine WL.y (Yl.assign rfl) rfl ?_
    refine WL.nil ?_
    refine WC.seq ?_
    refine WC.block ?_
    refine WC.loop (α := Nat) (fun k => [(4, .pointer (some ⟨b4, 0, none⟩)), (5, .pointer (some ⟨b5, 0, none⟩)), (7, .pointer (some ⟨b7, 0, none⟩)), (8, .pointer (some ⟨b8, 0, none⟩)), (9, .int .i64 (k : Int))]) (fun _ => [blkR b8 45 x.cells, blkR b4 3 [.int .i64 (n : Int)], blkR b5 79 [.func (.func ga) #[] #[]], blkR b7 33 [.slice ao T.length ca], ownR (.slice ao T.length ca) 45 22 T.length (vcs rcV T)]) (fun k => k ≤ T.length ∧ ∀ y ∈ T.drop k, key y < key x) (fun k => k) T.length ⟨Nat.le_refl _, by rw [List.drop_length]; exact fun _ h => nomatch h⟩ ⟨(by repeat' constructor), _, (by repeat' constructor)⟩ ?_
    rintro k ⟨hk, hdr⟩
    refine WC.seq ?_
    refine WC.seq ?_
    refine WC.drawAny (Hs := [blkR b8 45 x.cells, blkR b4 3 [.int .i64 (n : Int)], blkR b5 79 [.func (.func ga) #[] #[]], blkR b7 33 [.slice ao T.length ca], ownR (.slice ao T.length ca) 45 22 T.length (vcs rcV T)]) mixed (by kernel_rfl) ⟨_, (by repeat' constructor)⟩ ?_
    refine WD.tk 0 rfl (by kernel_rfl) rfl rfl (Yl.move rfl) rfl ?_
    refine WD.tk 1 rfl (by kernel_rfl) rfl rfl (Yl.gtr rfl rfl) rfl ?_
    refine WD.tk 2 rfl (by kernel_rfl) rfl rfl (Yl.move rfl) rfl ?_
    refine WD.both (t := 23) rfl (fun g23 => ?_) (fun g23 => ?_)
    · refine WD.takeOn 3 rfl (by kernel_rfl) (by kernel_rfl) (by kernel_rfl) rfl rfl rfl rfl (Yl.load on79 rfl (by repeat constructor) (by rfl)) rfl ?_
      have hk0 : 0 < k := by simpa using g23
      obtain ⟨y, hy0⟩ : ∃ y, T[k - 1]? = some y := ⟨_, List.getElem?_eq_getElem (by omega)⟩
      have hyo := hT.get hy0
      refine WD.takeOn 4 rfl (by kernel_rfl) (by kernel_rfl) (by kernel_rfl) rfl rfl rfl rfl (Yl.loadN ag45 rfl (by repeat constructor) (leBl (by rw [h22]; omega)) (Rc.call hxo.len)) rfl ?_
      refine WD.takeOn 5 rfl (by kernel_rfl) (by kernel_rfl) (by kernel_rfl) rfl rfl rfl rfl (Yl.load on33 rfl (by repeat constructor) (by rfl)) rfl ?_
      refine WD.takeOn 6 rfl (by kernel_rfl) (by kernel_rfl) (by kernel_rfl) rfl rfl rfl rfl (Yl.move rfl) rfl ?_
      refine WD.takeOn 7 rfl (by kernel_rfl) (by kernel_rfl) (by kernel_rfl) rfl rfl rfl rfl (Yl.sub rfl rfl (IntWalk.i64_in _ (by omega))) rfl ?_
      refine WD.say (t := 28) (v' := .int .i64 ((k - 1 : Nat) : Int)) rfl (by (refine congrArg _ ?_; omega)) ?_
      refine WD.takeOn 8 rfl (by kernel_rfl) (by kernel_rfl) (by kernel_rfl) rfl rfl rfl rfl (Yl.index un33 sz45 rfl rfl (Reads.of (r := ownR (.slice ao T.length ca) 45 22 T.length (vcs rcV T)) RdOf.own (by repeat constructor)) rfl (by omega)) rfl ?_
      refine WD.takeOn 9 rfl (by kernel_rfl) (by kernel_rfl) (by kernel_rfl) rfl rfl rfl rfl (Yl.loadV (j := k - 1) (u := y) vtR hT rfl (Reads.of (r := ownR (.slice ao T.length ca) 45 22 T.length (vcs rcV T)) RdOf.own (by repeat constructor)) rfl hy0) rfl ?_
      refine WD.one 10 (by kernel_rfl) ?_
      refine WO.callC (f := .tmp 24) (xs := [.tmp 25, .tmp 30]) (cap := []) rfl (.on rfl rfl) rfl rfl ega (by repeat' constructor) (fun w hw => ha x y hxo hyo w hw.left.here) rfl (fun _ => ⟨_, (by repeat' constructor)⟩) ?_
      rintro ⟨⟩ -
      refine WD.tk 11 rfl (by kernel_rfl) rfl rfl (Yl.pickT rfl rfl) rfl ?_
      refine WD.done (by kernel_rfl) ?_
      refine WC.condD rfl (fun g32 => ?_) (fun g32 => ?_)
      · refine WC.skip ?_
        refine WC.block ?_
        refine WC.region ?_
        refine WL.y (Yl.move rfl) rfl ?_
        refine WL.y (Yl.sub rfl rfl (IntWalk.i64_in _ (by omega))) rfl ?_
        refine WL.say (t := 34) (v' := .int .i64 ((k - 1 : Nat) : Int)) rfl (by (refine congrArg _ ?_; omega)) ?_
        refine WL.y (Yl.assign rfl) rfl ?_
        refine WL.nil ?_
        have hlt : key y < key x := by simpa using g32
        refine ⟨rfl, k - 1, ⟨by omega, fun z hz => ?_⟩, by omega, (by repeat' constructor), _, (by repeat' constructor)⟩
        rw [drop_pred hk0 hy0] at hz
        rcases List.mem_cons.1 hz with rfl | hz
        · exact hlt
        · exact hdr z hz
      · refine WC.exit ?_
        refine WC.seq ?_
        refine WC.region ?_
        have hins : insD key x T = T.take k ++ [x] ++ T.drop k := insD_at key x hk (fun z hz => desc_take hTd hy0 (by simpa using g32) z (by rw [show k - 1 + 1 = k by omega]; exact hz)) hdr
        rw [List.append_assoc, List.singleton_append] at hins
        refine WL.y (Yl.load on33 rfl (by repeat constructor) (by rfl)) rfl ?_
        refine WL.y (Yl.move rfl) rfl ?_
        refine WL.y (Yl.loadN ag45 rfl (by repeat constructor) (leBl (by rw [h22]; omega)) (Rc.call hxo.len)) rfl ?_
        refine WL.to (To.buildSlice (vs := [.agg x.cells.toArray]) un33 zs45 rfl rfl (by simp [Value.cells, h22]) (by decide) (by decide)) rfl ?_
        intro b38
        rw [flat1]
        refine WL.callC (xs := [.tmp 35, .tmp 36, .tmp 38]) (cap := []) rfl rfl en72 (by repeat' constructor) (fun w hw => insR_any ao ca T x hT hxo k b38 (by omega) hk w hw.left.here) rfl ?_
        rintro ⟨a39, c39⟩ -
        dsimp only [List.cons_append, List.nil_append]
        rw [← hins, show T.length + 1 = (insD key x T).length from (insD_len key x T).symm]
        refine WL.sto (Sto.one sz33 rfl rfl (by repeat constructor) rfl (by rfl) (by rfl)) (fun _ h => nomatch h) ?_
        refine WL.nil ?_
        refine WC.seq ?_
        refine WC.region ?_
        refine WL.y (Yl.load on33 rfl (by repeat constructor) (by rfl)) rfl ?_
        refine WL.y (Yl.len un33 rfl) rfl ?_
        refine WL.y (Yl.load on3 rfl (by repeat constructor) (by rfl)) rfl ?_
        refine WL.y (Yl.gtr rfl rfl) rfl ?_
        refine WL.nil ?_
        refine WC.condD rfl (fun g43 => ?_) (fun g43 => ?_)
        · refine WC.region ?_
          have hbig : n < (insD key x T).length := by have h0 := g43; simp at h0; omega
          have hln : ((insD key x T).take n).length = n := by rw [List.length_take]; omega
          refine WL.viewX (α := Unit) (φ := fun _ => (insD key x T).length ≤ c39) (H' := fun _ => _) (fun w h => ⟨(), Sown.le (h.get (r := ownR (.slice a39 (insD key x T).length c39) 45 22 (insD key x T).length (vcs rcV (insD key x T))) (by repeat constructor)), h⟩) ?_
          intro _ hcp
          refine WL.y (Yl.load on33 rfl (by repeat constructor) (by rfl)) rfl ?_
          refine WL.y (Yl.load on3 rfl (by repeat constructor) (by rfl)) rfl ?_
          refine WL.y (Yl.slice un33 sz45 rfl rfl ⟨_, rfl⟩ (by omega) (by omega)) rfl ?_
          refine WL.view (fun w h => h.cutG (ao := a39) (cap := c39) (hh := ((insD key x T).take n).length) (cs' := vcs rcV ((insD key x T).take n)) (by repeat constructor) (by omega) hcp (by rw [hln]; exact rc_take (insD_ok hxo hT) n)) ?_
          refine WL.say (t := 46) (v' := .slice a39 ((insD key x T).take n).length c39) rfl (by rw [hln]; exact sub0) ?_
          refine WL.sto (Sto.one sz33 rfl rfl (by repeat constructor) rfl (by rfl) (by rfl)) (fun _ h => nomatch h) ?_
          refine WL.nil ?_
          repeat (with_reducible (first | refine peelT ?_ | refine peelB ?_ | refine peelTX ?_ | refine peelBX ?_ | refine peelBN ?_ | refine peelBO rfl ?_))
          exact ⟨[blkR b4 3 [.int .i64 (n : Int)], blkR b5 79 [.func (.func ga) #[] #[]], blkR b7 33 [.slice a39 ((insD key x T).take n).length c39], ownR (.slice a39 ((insD key x T).take n).length c39) 45 22 ((insD key x T).take n).length (vcs rcV ((insD key x T).take n))], _, (by repeat' constructor), (a39, c39), trivial, rfl⟩
        · refine WC.skip ?_
          repeat (with_reducible (first | refine peelT ?_ | refine peelB ?_ | refine peelTX ?_ | refine peelBX ?_ | refine peelBN ?_ | refine peelBO rfl ?_))
          have hVn : (insD key x T).take n = insD key x T := List.take_of_length_le (by have h0 := g43; simp at h0; omega)
          rw [hVn]
          exact ⟨[blkR b4 3 [.int .i64 (n : Int)], blkR b5 79 [.func (.func ga) #[] #[]], blkR b7 33 [.slice a39 (insD key x T).length c39], ownR (.slice a39 (insD key x T).length c39) 45 22 (insD key x T).length (vcs rcV (insD key x T))], _, (by repeat' constructor), (a39, c39), trivial, rfl⟩
    · refine WD.takeOff 3 rfl (by kernel_rfl) (by kernel_rfl) (by kernel_rfl) rfl rfl rfl rfl rfl rfl ?_
      refine WD.takeOff 4 rfl (by kernel_rfl) (by kernel_rfl) (by kernel_rfl) rfl rfl rfl rfl rfl rfl ?_
      refine WD.takeOff 5 rfl (by kernel_rfl) (by kernel_rfl) (by kernel_rfl) rfl rfl rfl rfl rfl rfl ?_
      refine WD.takeOff 6 rfl (by kernel_rfl) (by kernel_rfl) (by kernel_rfl) rfl rfl rfl rfl rfl rfl ?_
      refine WD.takeOff 7 rfl (by kernel_rfl) (by kernel_rfl) (by kernel_rfl) rfl rfl rfl rfl rfl rfl ?_
      refine WD.takeOff 8 rfl (by kernel_rfl) (by kernel_rfl) (by kernel_rfl) rfl rfl rfl rfl rfl rfl ?_
      refine WD.takeOff 9 rfl (by kernel_rfl) (by kernel_rfl) (by kernel_rfl) rfl rfl rfl rfl rfl rfl ?_
      refine WD.one 10 (by kernel_rfl) ?_
      refine WO.off rfl rfl rfl rfl rfl rfl rfl ?_
      refine WD.tk 11 rfl (by kernel_rfl) rfl rfl (Yl.pickF rfl rfl) rfl ?_
      refine WD.done (by kernel_rfl) ?_
      refine WC.condF rfl (by first | rfl | (simp; done) | (simp; omega)) ?_
      refine WC.exit ?_
      refine WC.seq ?_
      refine WC.region ?_
      have hk0 : k = 0 := by simpa using g23
      have hins : insD key x T = T.take k ++ [x] ++ T.drop k := insD_at key x hk (by rw [hk0]; exact fun z hz => nomatch hz) hdr
      rw [List.append_assoc, List.singleton_append] at hins
      refine WL.y (Yl.load on33 rfl (by repeat constructor) (by rfl)) rfl ?_
      refine WL.y (Yl.move rfl) rfl ?_
      refine WL.y (Yl.loadN ag45 rfl (by repeat constructor) (leBl (by rw [h22]; omega)) (Rc.call hxo.len)) rfl ?_
      refine WL.to (To.buildSlice (vs := [.agg x.cells.toArray]) un33 zs45 rfl rfl (by simp [Value.cells, h22]) (by decide) (by decide)) rfl ?_
      intro b38
      rw [flat1]
      refine WL.callC (xs := [.tmp 35, .tmp 36, .tmp 38]) (cap := []) rfl rfl en72 (by repeat' constructor) (fun w hw => insR_any ao ca T x hT hxo k b38 (by omega) hk w hw.left.here) rfl ?_
      rintro ⟨a39, c39⟩ -
      dsimp only [List.cons_append, List.nil_append]
      rw [← hins, show T.length + 1 = (insD key x T).length from (insD_len key x T).symm]
      refine WL.sto (Sto.one sz33 rfl rfl (by repeat constructor) rfl (by rfl) (by rfl)) (fun _ h => nomatch h) ?_
      refine WL.nil ?_
      refine WC.seq ?_
      refine WC.region ?_
      refine WL.y (Yl.load on33 rfl (by repeat constructor) (by rfl)) rfl ?_
      refine WL.y (Yl.len un33 rfl) rfl ?_
      refine WL.y (Yl.load on3 rfl (by repeat constructor) (by rfl)) rfl ?_
      refine WL.y (Yl.gtr rfl rfl) rfl ?_
      refine WL.nil ?_
      refine WC.condD rfl (fun g43 => ?_) (fun g43 => ?_)
      · refine WC.region ?_
        have hbig : n < (insD key x T).length := by have h0 := g43; simp at h0; omega
        have hln : ((insD key x T).take n).length = n := by rw [List.length_take]; omega
        refine WL.viewX (α := Unit) (φ := fun _ => (insD key x T).length ≤ c39) (H' := fun _ => _) (fun w h => ⟨(), Sown.le (h.get (r := ownR (.slice a39 (insD key x T).length c39) 45 22 (insD key x T).length (vcs rcV (insD key x T))) (by repeat constructor)), h⟩) ?_
        intro _ hcp
        refine WL.y (Yl.load on33 rfl (by repeat constructor) (by rfl)) rfl ?_
        refine WL.y (Yl.load on3 rfl (by repeat constructor) (by rfl)) rfl ?_
        refine WL.y (Yl.slice un33 sz45 rfl rfl ⟨_, rfl⟩ (by omega) (by omega)) rfl ?_
        refine WL.view (fun w h => h.cutG (ao := a39) (cap := c39) (hh := ((insD key x T).take n).length) (cs' := vcs rcV ((insD key x T).take n)) (by repeat constructor) (by omega) hcp (by rw [hln]; exact rc_take (insD_ok hxo hT) n)) ?_
        refine WL.say (t := 46) (v' := .slice a39 ((insD key x T).take n).length c39) rfl (by rw [hln]; exact sub0) ?_
        refine WL.sto (Sto.one sz33 rfl rfl (by repeat constructor) rfl (by rfl) (by rfl)) (fun _ h => nomatch h) ?_
        refine WL.nil ?_
        repeat (with_reducible (first | refine peelT ?_ | refine peelB ?_ | refine peelTX ?_ | refine peelBX ?_ | refine peelBN ?_ | refine peelBO rfl ?_))
        exact ⟨[blkR b4 3 [.int .i64 (n : Int)], blkR b5 79 [.func (.func ga) #[] #[]], blkR b7 33 [.slice a39 ((insD key x T).take n).length c39], ownR (.slice a39 ((insD key x T).take n).length c39) 45 22 ((insD key x T).take n).length (vcs rcV ((insD key x T).take n))], _, (by repeat' constructor), (a39, c39), trivial, rfl⟩
      · refine WC.skip ?_
        repeat (with_reducible (first | refine peelT ?_ | refine peelB ?_ | refine peelTX ?_ | refine peelBX ?_ | refine peelBN ?_ | refine peelBO rfl ?_))
        have hVn : (insD key x T).take n = insD key x T := List.take_of_length_le (by have h0 := g43; simp at h0; omega)
        rw [hVn]
        exact ⟨[blkR b4 3 [.int .i64 (n : Int)], blkR b5 79 [.func (.func ga) #[] #[]], blkR b7 33 [.slice a39 (insD key x T).length c39], ownR (.slice a39 (insD key x T).length c39) 45 22 (insD key x T).length (vcs rcV (insD key x T))], _, (by repeat' constructor), (a39, c39), trivial, rfl⟩
  · rintro ⟨ao, ca⟩ D -
    rw [ysR_len, List.take_length]
    dsimp only [List.cons_append, List.nil_append]
    refine WC.seq ?_
    refine WC.region ?_
    refine WL.y (Yl.load on33 rfl (by repeat constructor) (by rfl)) rfl ?_
    refine WL.y (Yl.assign rfl) rfl ?_
    refine WL.nil ?_
    refine WC.ret ?_
    repeat (with_reducible (first | refine peelT ?_ | refine peelB ?_ | refine peelTX ?_ | refine peelBX ?_ | refine peelBN ?_ | refine peelBO rfl ?_))
    refine retM.of (.cons (by repeat constructor) .nil) ?_
    exact ret1 (.inr rfl) Tryz.results30 rfl fun w' h => ⟨(ao, ca), trivial, rfl, h.sub (by repeat' constructor)⟩
end Go.Proofs.YtbgimajbehodnaaGreatDoor

namespace Go.Proofs.YtbgimajbehodnaaGreatDoor
open Go Go.RowKit
def wnA (b1 b2 b3 : Nat) (a b : Int) : List Res := [roR (blkR b1 40 [.nilFunc]), roR (blkR b2 34 [.int .u64 a]), roR (blkR b3 34 [.int .u64 b])]
set_option maxRecDepth 100000 in
theorem within1N_iter (b1 b2 b3 : Nat) (a b : Int) (w : World) (hA : OK w (fpL (wnA b1 b2 b3 a b)) (wnA b1 b2 b3 a b) w) :
    Iter Tryz.prog 71 ([.pointer (some ⟨b1, 0, none⟩), .pointer (some ⟨b2, 0, none⟩), .pointer (some ⟨b3, 0, none⟩)] : List Value).toArray (fpL (wnA b1 b2 b3 a b)).rd (ysR []) w := by
  unfold wnA at hA ⊢
  have hwr : ∀ r ∈ [roR (blkR b1 40 [.nilFunc]), roR (blkR b2 34 [.int .u64 a]), roR (blkR b3 34 [.int .u64 b])], ∀ k, ¬ r.wr k := by
    intro r hr k hk
    simp at hr
    rcases hr with rfl | rfl | rfl <;> exact hk
  refine iter_ofM Tryz.func71 rfl Tryz.ntmps71 rfl hA hwr ?_
  intro l W g gx T0 hy
  refine WC.seq ?_
  refine WC.region ?_
  refine WL.to (To.box (cs := [.func (.yield l) #[] #[]]) rfl rfl) rfl ?_
  intro b4
  refine WL.nil ?_
  refine WC.seq ?_
  refine WC.region ?_
  refine WL.y (Yl.loadRo on40 rfl (by repeat constructor) (by rfl)) rfl ?_
  refine WL.callC (xs := [.tmp 6]) (cap := []) rfl rfl en46 (by repeat' constructor) (fun w hw => all_nil w hw.left.here) rfl ?_
  rintro own -
  refine WL.nil ?_
  refine WC.block ?_
  refine WC.range (α := Unit) (lb := []) (xs := ysR []) (fun _ _ => []) (fun _ _ => True) () rfl en86 ysR_size rfl (by repeat constructor) trivial (by repeat' constructor) (fun l i x s hx => by simp [ysR] at hx) ?_
  rintro ⟨⟩ D -
  dsimp only [List.cons_append, List.nil_append]
  repeat (with_reducible (first | refine peelT ?_ | refine peelB ?_ | refine peelTX ?_ | refine peelBX ?_ | refine peelBN ?_ | refine peelBO rfl ?_))
  refine retM.of (.cons (by repeat constructor) .nil) ?_
  exact itEnd (.inl rfl) Tryz.results71 (by repeat constructor)
theorem within_nil (a b : Int) (w : World) (hw : OK w (fpL []) [] w) :
    Fn Tryz.prog 28 [.nilFunc, .int .u64 a, .int .u64 b] [] w (fun _ : Nat × Nat × Nat × (Nat → Prop) => True) (fun y => .func (.func 71) #[] #[.pointer (some ⟨y.1, 0, none⟩), .pointer (some ⟨y.2.1, 0, none⟩), .pointer (some ⟨y.2.2.1, 0, none⟩)])
      (fun y => [itR Tryz.prog 71 [.pointer (some ⟨y.1, 0, none⟩), .pointer (some ⟨y.2.1, 0, none⟩), .pointer (some ⟨y.2.2.1, 0, none⟩)] y.2.2.2 (ysR [])]) := by
  refine enterF Tryz.func28 rfl Tryz.ntmps28 rfl hw ?_
  refine WC.seq ?_
  refine WC.region ?_
  refine WL.to (To.box (cs := [.nilFunc]) rfl rfl) rfl ?_
  intro b3
  refine WL.to (To.box (cs := [.int .u64 a]) rfl rfl) rfl ?_
  intro b4
  refine WL.to (To.box (cs := [.int .u64 b]) rfl rfl) rfl ?_
  intro b5
  refine WL.y (Yl.assign rfl) rfl ?_
  refine WL.nil ?_
  refine WC.seq ?_
  refine WC.region ?_
  refine WL.y (Yl.makeFunc (xs := []) (ys := [.tmp 3, .tmp 4, .tmp 5]) rfl rfl) rfl ?_
  refine WL.y (Yl.assign rfl) rfl ?_
  refine WL.nil ?_
  refine WC.ret ?_
  repeat (with_reducible (first | refine peelT ?_ | refine peelB ?_ | refine peelTX ?_ | refine peelBX ?_ | refine peelBN ?_ | refine peelBO rfl ?_))
  refine ret1 (.inr rfl) Tryz.results28 rfl fun w' hh => ⟨(b3, b4, b5, (fpL (wnA b3 b4 b5 a b)).rd), trivial, rfl, ?_⟩
  have hA : OK w _ ([blkR b3 40 [.nilFunc], blkR b4 34 [.int .u64 a], blkR b5 34 [.int .u64 b]] ++ []) w' := hh.sub (by repeat' constructor)
  have hro : OK w _ (wnA b3 b4 b5 a b ++ []) w' := hA.freeze
  exact hro.toIter (within1N_iter b3 b4 b5 a b w' hro.here) (fun k hk => hk)
end Go.Proofs.YtbgimajbehodnaaGreatDoor
