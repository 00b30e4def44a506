/- Sums by a key of uint64: the walks. -/
import Derived.Test.YtbgimajbehodnaaGreatDoorRepF
import Derived.Test.YtbgimajbehodnaaGreatDoorRepOV
namespace Go.Proofs.YtbgimajbehodnaaGreatDoor
open Go Go.RowKit
theorem keyTV : KeyT Tryz.prog 34 (fun x : Int => (Lit.int .u64 x).wf = true) (Value.int .u64) := .int (by kernel_rfl)
def byAV (gf : Nat) (lb : List Value) (own : Nat → Prop) (xs : List Rc) (gk : Nat) (cap : List Value) (ok : Nat → Prop) (key : Rc → Int) (b1 b2 : Nat) : List Res := [roR (blkR b1 55 [.func (.func gk) #[] cap.toArray]), roR (blkR b2 40 [.func (.func gf) #[] lb.toArray]), itR Tryz.prog gf lb own (ysR xs), kyR Tryz.prog gk cap ok .u64 key]
set_option maxRecDepth 100000 in
set_option maxHeartbeats 1600000 in
theorem by1V_iter (gf : Nat) (lb : List Value) (own : Nat → Prop) (xs : List Rc) (hG : ROk xs) (hl : xs.length ≤ 1000000) (eg : ∀ args w, (callFunc gf args).run Tryz.prog w = .ok (.enter gf args) w)
    (gk : Nat) (cap : List Value) (ok : Nat → Prop) (key : Rc → Int) (hkw : ∀ x, x.ok → (Lit.int .u64 (key x)).wf = true) (egk : ∀ args w, (callFunc gk args).run Tryz.prog w = .ok (.enter gk args) w)
    (b1 b2 : Nat) (w : World) (hA : OK w (fpL (byAV gf lb own xs gk cap ok key b1 b2)) (byAV gf lb own xs gk cap ok key b1 b2) w) :
    Iter Tryz.prog 51 ([.pointer (some ⟨b1, 0, none⟩), .pointer (some ⟨b2, 0, none⟩)] : List Value).toArray (fpL (byAV gf lb own xs gk cap ok key b1 b2)).rd (ysB .u64 (byV key xs)) w := by
  unfold byAV at hA ⊢
  have hwr : ∀ r ∈ [roR (blkR b1 55 [.func (.func gk) #[] cap.toArray]), roR (blkR b2 40 [.func (.func gf) #[] lb.toArray]), itR Tryz.prog gf lb own (ysR xs), kyR Tryz.prog gk cap ok .u64 key], ∀ k, ¬ r.wr k := by
    intro r hr k hk
    simp at hr
    rcases hr with rfl | rfl | rfl | rfl <;> exact hk
  have hln := ysB_len .u64 (byV key xs)
  have hkn := byV_len key xs
  refine iter_ofM Tryz.func51 rfl Tryz.ntmps51 rfl hA hwr ?_
  intro l W g gx T0 hy
  refine WC.seq ?_
  refine WC.seq ?_
  refine WC.region ?_
  refine WL.y (Yl.loadRo on55 rfl (by repeat constructor) (by rfl)) rfl ?_
  refine WL.y (Yl.eqNilF (by kernel_rfl) rfl rfl) rfl ?_
  refine WL.know (t := 10) (b' := false) rfl (by first | rfl | (simp; done) | (simp; omega)) ?_
  refine WL.nil ?_
  refine WC.condF rfl (by first | rfl | (simp; done) | (simp; omega)) ?_
  refine WC.skip ?_
  refine WC.seq ?_
  refine WC.region ?_
  refine WL.to (To.makeMap (Value.int .u64) smV) rfl ?_
  intro b11
  refine WL.to (To.alloc (cs := [.map none]) zr108 rfl) rfl ?_
  intro b4
  refine WL.sto (Sto.one sz108 rfl rfl (by repeat constructor) rfl (by rfl) (by rfl)) (fun _ h => nomatch h) ?_
  refine WL.nil ?_
  refine WC.seq ?_
  refine WC.seq ?_
  refine WC.region ?_
  refine WL.y (Yl.loadRo on40 rfl (by repeat constructor) (by rfl)) rfl ?_
  refine WL.callC (xs := [.tmp 12]) (cap := []) rfl rfl en46 (by repeat' constructor) (fun w hw => all_any gf lb w hw.left.here) rfl ?_
  rintro ⟨⟩ -
  refine WL.nil ?_
  refine WC.block ?_
  refine WC.range (α := Unit) (lb := lb) (xs := ysR xs) (fun i _ => [blkR b4 108 [.map (some b11)], mapR (Value.int .u64) smV b11 (byM key (xs.take i)), roR (blkR b1 55 [.func (.func gk) #[] cap.toArray]), kyR Tryz.prog gk cap ok .u64 key]) (fun _ _ => True) () rfl eg ysR_size rfl (by repeat constructor) trivial (by repeat' constructor) ?_ ?_
  · intro l2 i x T hx _ W2
    obtain ⟨x, hx0, rfl⟩ := ysR_at hx
    have hxo := hG.get hx0
    have h22 := Rc.cells_len hxo.len
    have hnx : xs.take (i + 1) = xs.take i ++ [x] := (take_snoc _ _ _ hx0).symm
    dsimp only
    show WC _ _ _ ((14, .agg x.cells.toArray) :: _) _ _
    refine WC.region ?_
    refine WL.to (To.alloc (cs := Rc.zero.cells) zr45 rfl) rfl ?_
    intro b5
    refine WL.sto (Sto.agg sz45 rfl rfl (by repeat constructor) (Rc.ones _) h22 (by rfl) (Rc.all (r := Rc.zero) rfl x.cells h22)) (fun _ h => nomatch h) ?_
    refine WL.nil ?_
    repeat (with_reducible (first | refine peelT ?_ | refine peelB ?_ | refine peelTX ?_ | refine peelBX ?_ | refine peelBN ?_ | refine peelBO rfl ?_))
    refine fun W2 => ?_
    refine WC.block ?_
    refine WC.seq ?_
    refine WC.region ?_
    refine WL.y (Yl.loadRo on55 rfl (by repeat constructor) (by rfl)) rfl ?_
    refine WL.y (Yl.loadN ag45 rfl (by repeat constructor) (leBl (by rw [h22]; omega)) (Rc.call hxo.len)) rfl ?_
    refine WL.callC (f := .tmp 15) (xs := [.tmp 16]) (cap := cap) rfl rfl egk (by repeat' constructor) (fun w hw => ((hw.ky (gk := gk) (cap := cap) (own := ok) (k := .u64) (key := key) (by repeat constructor) hxo))) rfl ?_
    rintro ⟨⟩ -
    refine WL.y (Yl.assign rfl) rfl ?_
    refine WL.nil ?_
    obtain ⟨m, hm⟩ : ∃ m, m = byM key (xs.take i) := ⟨_, rfl⟩
    have hmG : ∀ p ∈ m, (Lit.int .u64 p.1).wf = true := fun p hp => by
      rw [hm] at hp
      obtain ⟨r, hr, e⟩ := byM_mem key hp
      rw [← e]; exact hkw r (hG r (List.mem_of_mem_take hr))
    have hms : (((mget m (key x)).map smV).getD (smV Sm.zero)) = smV (sumS (selS key (key x) (xs.take i))) := by
      rw [hm, byM_get]
      split
      · rename_i e0; rw [e0]; rfl
      · rfl
    have hmj : byM key (xs.take (i + 1)) = mput m (key x) (joinS (sumS (selS key (key x) (xs.take i))) (oneS x)) := by
      rw [hnx, byM_snoc, hm, byM_get]
      split
      · rename_i e0; rw [e0]; rfl
      · rfl
    have hso := sumS_ok (selS_ok key (fun r hr => hG r (List.mem_of_mem_take hr) : ∀ r ∈ xs.take i, r.ok) (key x))
    rw [← hm]
    refine WC.drawLast 8 (Hs := [blkR b5 45 x.cells, blkR b4 108 [.map (some b11)], mapR (Value.int .u64) smV b11 m]) rfl rfl mixed (by kernel_rfl) ⟨_, (by repeat' constructor)⟩ ?_
    try dsimp only [List.dropLast]
    refine WD.tk 0 rfl (by kernel_rfl) rfl rfl (Yl.load on108 rfl (by repeat constructor) (by rfl)) rfl ?_
    refine WD.tk 1 rfl (by kernel_rfl) rfl rfl (Yl.move rfl) rfl ?_
    refine WD.tk 2 rfl (by kernel_rfl) rfl rfl (Yl.load on108 rfl (by repeat constructor) (by rfl)) rfl ?_
    refine WD.tk 3 rfl (by kernel_rfl) rfl rfl (Yl.move rfl) rfl ?_
    refine WD.tk 4 rfl (by kernel_rfl) rfl rfl (Yl.lookup (kv := Value.int .u64) keyTV un108 (fun _ => by kernel_rfl) (z := smV Sm.zero) hmG rfl rfl (hkw x hxo) (MReads.of (m := m) MapOf.own (by repeat constructor))) rfl ?_
    refine WD.say (t := 22) (v' := smV (sumS (selS key (key x) (xs.take i)))) rfl (by exact hms) ?_
    refine WD.tk 5 rfl (by kernel_rfl) rfl rfl (Yl.loadN ag45 rfl (by repeat constructor) (leBl (by rw [h22]; omega)) (Rc.call hxo.len)) rfl ?_
    refine WD.one 6 (by kernel_rfl) ?_
    refine WO.callC (xs := [.tmp 23]) (cap := []) rfl .no rfl rfl en47 (by repeat' constructor) (fun w hw => one_any x hxo w hw.left.here) rfl (fun _ => ⟨_, (by repeat' constructor)⟩) ?_
    rintro ⟨⟩ -
    refine WD.one 7 (by kernel_rfl) ?_
    refine WO.callC (xs := [.tmp 22, .tmp 24]) (cap := []) rfl .no rfl rfl en16 (by repeat' constructor) (fun w hw => join_any (sumS (selS key (key x) (xs.take i))) (oneS x) hso (oneS_ok hxo) w hw.left.here) rfl (fun _ => ⟨_, (by repeat' constructor)⟩) ?_
    rintro ⟨⟩ -
    refine WD.done (by kernel_rfl) ?_
    refine ⟨_, (Sto.mapPut (v := joinS (sumS (selS key (key x) (xs.take i))) (oneS x)) (q := key x) (m := m) (kv := Value.int .u64) keyTV un108 hmG rfl rfl (hkw x hxo) rfl (by repeat constructor)), ?_⟩
    repeat (with_reducible (first | refine peelT ?_ | refine peelB ?_ | refine peelTX ?_ | refine peelBX ?_ | refine peelBN ?_ | refine peelBO rfl ?_))
    rw [← hmj]
    exact ⟨[blkR b4 108 [.map (some b11)], mapR (Value.int .u64) smV b11 (byM key (xs.take (i + 1))), roR (blkR b1 55 [.func (.func gk) #[] cap.toArray]), kyR Tryz.prog gk cap ok .u64 key], _, (by repeat' constructor), (), trivial, rfl⟩
  · rintro ⟨⟩ D -
    rw [ysR_len xs, List.take_length]
    dsimp only [List.cons_append, List.nil_append]
    have hmG : ∀ p ∈ byM key xs, (Lit.int .u64 p.1).wf = true := fun p hp => by
      obtain ⟨r, hr, e⟩ := byM_mem key hp
      rw [← e]; exact hkw r (hG r hr)
    have hml := byM_len key xs
    have hkl := byK_len key xs
    refine WC.seq ?_
    refine WC.region ?_
    refine WL.y (Yl.load on108 rfl (by repeat constructor) (by rfl)) rfl ?_
    refine WL.view (fun w h => h.roOne (r := mapR (Value.int .u64) smV b11 (byM key xs)) (by repeat constructor)) ?_
    refine WL.view (fun w h => h.dup (r := roR (mapR (Value.int .u64) smV b11 (byM key xs))) (by repeat constructor) (fun _ h => h)) ?_
    refine WL.callC (xs := [.tmp 26]) (cap := []) rfl rfl en53 (by repeat' constructor) (fun w hw => keysV_any b11 (byM key xs) w hw.left.here) rfl ?_
    rintro ⟨k1, own1⟩ -
    dsimp only [List.cons_append, List.nil_append]
    refine WL.callC (xs := [.tmp 27]) (cap := []) rfl rfl en52 (by repeat' constructor) (fun w hw => sortedV_any 90 [.pointer (some ⟨k1, 0, none⟩)] own1 (List.map (fun p : Int × Sm => p.1) (byM key xs)) (by rw [List.length_map]; omega) en90 w hw.left.here) rfl ?_
    rintro ⟨a28, c28⟩ -
    rw [show asc ((byM key xs).map (·.1)) = byK key xs from rfl]
    dsimp only [List.cons_append, List.nil_append]
    refine WL.y (Yl.len un48 rfl) rfl ?_
    refine WL.y (Yl.move rfl) rfl ?_
    refine WL.nil ?_
    refine WC.block ?_
    refine WC.loop (α := Nat × (Nat → Prop)) (fun p => [(0, .func (.yield l) #[] #[]), (4, .pointer (some ⟨b4, 0, none⟩)), (28, .slice a28 (byK key xs).length c28), (29, .int .i64 ((byK key xs).length : Int)), (30, .int .i64 (p.1 : Int))]) (fun p => [objR D (.deferred (some [])), gstR g p.1 p.2, blkR b4 108 [.map (some b11)], roR (mapR (Value.int .u64) smV b11 (byM key xs)), ownR (.slice a28 (byK key xs).length c28) 34 1 (byK key xs).length (ints .u64 (byK key xs))]) (fun p => p.1 ≤ (byK key xs).length) (fun p => (byK key xs).length - p.1) (0, T0) (Nat.zero_le _) ⟨(by repeat' constructor), _, (by repeat' constructor)⟩ ?_
    rintro ⟨i, T⟩ hi
    dsimp only at hi ⊢
    refine WC.seq ?_
    refine WC.region ?_
    refine WL.y (Yl.lss rfl rfl) rfl ?_
    refine WL.nil ?_
    refine WC.seq ?_
    refine WC.condD rfl (fun g31 => ?_) (fun g31 => ?_)
    · refine WC.skip ?_
      refine WC.seq ?_
      refine WC.block ?_
      refine WC.seq ?_
      refine WC.region ?_
      have hil : i < (byK key xs).length := by simpa using g31
      obtain ⟨z, hz⟩ : ∃ z, (byK key xs)[i]? = some z := ⟨_, List.getElem?_eq_getElem hil⟩
      have hzm := List.mem_of_getElem? hz
      have hzw : (Lit.int .u64 z).wf = true := by
        obtain ⟨r, hr, e⟩ := (byK_mem key).1 hzm
        rw [← e]; exact hkw r (hG r hr)
      refine WL.y (Yl.index un48 sz34 rfl rfl (Reads.of (r := ownR (.slice a28 (byK key xs).length c28) 34 1 (byK key xs).length (ints .u64 (byK key xs))) RdOf.own (by repeat constructor)) rfl (by omega)) rfl ?_
      refine WL.y (Yl.loadE (j := i) (u := .int .u64 z) on34 rfl (Reads.of (r := ownR (.slice a28 (byK key xs).length c28) 34 1 (byK key xs).length (ints .u64 (byK key xs))) RdOf.own (by repeat constructor)) (by simp [ints, hz])) rfl ?_
      refine WL.y (Yl.assign rfl) rfl ?_
      refine WL.nil ?_
      refine WC.seq ?_
      refine WC.region ?_
      refine WL.y (Yl.move rfl) rfl ?_
      refine WL.y (Yl.move rfl) rfl ?_
      refine WL.y (Yl.load on108 rfl (by repeat constructor) (by rfl)) rfl ?_
      refine WL.y (Yl.move rfl) rfl ?_
      refine WL.y (Yl.lookup (kv := Value.int .u64) keyTV un108 (fun _ => by kernel_rfl) (z := smV Sm.zero) hmG rfl rfl hzw (MReads.of (m := byM key xs) MapOf.ro (by repeat constructor))) rfl ?_
      refine WL.say (t := 38) (v' := smV (sumS (selS key z xs))) rfl (by (show ((mget (byM key xs) z).map smV).getD (smV Sm.zero) = _; rw [byK_sel key hzm]; rfl)) ?_
      refine WL.yield (xs := [.tmp 35, .tmp 38]) (i := i) hy rfl rfl (ysB_get hz) (by repeat constructor) rfl ?_
      intro b39 T'
      refine WL.y (Yl.not rfl) rfl ?_
      refine WL.nil ?_
      refine WC.cond rfl (fun g40 => ?_) (fun g40 => ?_)
      · refine WC.ret ?_
        repeat (with_reducible (first | refine peelT ?_ | refine peelB ?_ | refine peelTX ?_ | refine peelBX ?_ | refine peelBN ?_ | refine peelBO rfl ?_))
        have hb2 : b39 = false := by simpa using g40
        subst hb2
        simp only [Bool.false_eq_true, if_false]
        refine retM.of (.cons (by repeat constructor) .nil) ?_
        exact itStop (i := i) (.inr rfl) Tryz.results51 (by repeat constructor) (by rw [hln, hkn]; exact hil)
      · refine WC.skip ?_
        refine WC.region ?_
        refine WL.y (Yl.add rfl rfl (IntWalk.i64_in _ (by omega))) rfl ?_
        refine WL.y (Yl.move rfl) rfl ?_
        refine WL.nil ?_
        have hb2 : b39 = true := by simpa using g40
        subst hb2
        simp only [if_true]
        exact ⟨rfl, (i + 1, T'), by dsimp only; omega, by dsimp only; omega, (by repeat' constructor), _, (by repeat' constructor)⟩
    · refine WC.exit ?_
      repeat (with_reducible (first | refine peelT ?_ | refine peelB ?_ | refine peelTX ?_ | refine peelBX ?_ | refine peelBN ?_ | refine peelBO rfl ?_))
      have hx : i = (ysB .u64 (byV key xs)).length := by rw [hln, hkn]; have := g31; simp at this; omega
      refine retM.of (.cons (by repeat constructor) .nil) ?_
      rw [← hx]
      exact itEnd (.inl rfl) Tryz.results51 (by repeat constructor)
theorem byV_any (gf : Nat) (lb : List Value) (own : Nat → Prop) (xs : List Rc) (hG : ROk xs) (hl : xs.length ≤ 1000000) (eg : ∀ args w, (callFunc gf args).run Tryz.prog w = .ok (.enter gf args) w)
    (gk : Nat) (cap : List Value) (ok : Nat → Prop) (key : Rc → Int) (hkw : ∀ x, x.ok → (Lit.int .u64 (key x)).wf = true) (egk : ∀ args w, (callFunc gk args).run Tryz.prog w = .ok (.enter gk args) w)
    (w : World) (hw : OK w (fpL [itR Tryz.prog gf lb own (ysR xs), kyR Tryz.prog gk cap ok .u64 key]) [itR Tryz.prog gf lb own (ysR xs), kyR Tryz.prog gk cap ok .u64 key] w) :
    Fn Tryz.prog 18 [.func (.func gf) #[] lb.toArray, .func (.func gk) #[] cap.toArray] [itR Tryz.prog gf lb own (ysR xs), kyR Tryz.prog gk cap ok .u64 key] w (fun _ : Nat × Nat × (Nat → Prop) => True) (fun y => .func (.func 51) #[] #[.pointer (some ⟨y.1, 0, none⟩), .pointer (some ⟨y.2.1, 0, none⟩)])
      (fun y => [itR Tryz.prog 51 [.pointer (some ⟨y.1, 0, none⟩), .pointer (some ⟨y.2.1, 0, none⟩)] y.2.2 (ysB .u64 (byV key xs))]) := by
  refine enterF Tryz.func18 rfl Tryz.ntmps18 rfl hw ?_
  refine WC.seq ?_
  refine WC.region ?_
  refine WL.to (To.box (cs := [.func (.func gf) #[] lb.toArray]) rfl rfl) rfl ?_
  intro b2
  refine WL.to (To.box (cs := [.func (.func gk) #[] cap.toArray]) rfl rfl) rfl ?_
  intro b3
  refine WL.y (Yl.assign rfl) rfl ?_
  refine WL.nil ?_
  refine WC.seq ?_
  refine WC.region ?_
  refine WL.y (Yl.makeFunc (xs := []) (ys := [.tmp 3, .tmp 2]) rfl rfl) rfl ?_
  refine WL.y (Yl.assign rfl) rfl ?_
  refine WL.nil ?_
  refine WC.ret ?_
  repeat (with_reducible (first | refine peelT ?_ | refine peelB ?_ | refine peelTX ?_ | refine peelBX ?_ | refine peelBN ?_ | refine peelBO rfl ?_))
  refine ret1 (.inr rfl) Tryz.results18 rfl fun w' hh => ⟨(b3, b2, (fpL (byAV gf lb own xs gk cap ok key b3 b2)).rd), trivial, rfl, ?_⟩
  have hA : OK w _ ([blkR b3 55 [.func (.func gk) #[] cap.toArray], blkR b2 40 [.func (.func gf) #[] lb.toArray], itR Tryz.prog gf lb own (ysR xs), kyR Tryz.prog gk cap ok .u64 key] ++ []) w' := hh.sub (by repeat' constructor)
  have hro : OK w _ (byAV gf lb own xs gk cap ok key b3 b2 ++ []) w' := hA.freeze
  exact hro.toIter (by1V_iter gf lb own xs hG hl eg gk cap ok key hkw egk b3 b2 w' hro.here) (fun k hk => hk)
end Go.Proofs.YtbgimajbehodnaaGreatDoor
