/- The document's policy: Insert, Remove, Decides, Ask: the walks. -/
import Derived.Test.YtnlibngncicobaaPolX
namespace Go.Proofs.Ytnlibngncicobaa
open Go Go.RowKit
def Po.rcells (p : Po) (v : Value) : List Value := .int .u8 p.df :: v :: (p.no.map Value.bool ++ ints .u64 p.la)
def polS (b : Nat) (ao : Option Addr) (ca : Nat) (p : Po) : List Res := [blkR b 42 (p.rcells (.slice ao p.rl.length ca)), rdR (.slice ao p.rl.length ca) 5 p.rl.length (vcs ruV p.rl)]
theorem Po.rlen {p : Po} (h : p.sz) (v : Value) : (p.rcells v).length = 18 := by simp [Po.rcells, ints_length, h.la, h.no]
theorem Po.ratN {p : Po} (h : p.sz) (v : Value) {j : Nat} (hj : j < 8) : (p.rcells v)[0 + 2 + j * 1]? = some (.bool (p.no.getD j false)) := by
  have e : 0 + 2 + j * 1 = (j + 1) + 1 := by omega
  rw [e]
  unfold Po.rcells
  rw [List.getElem?_cons_succ, List.getElem?_cons_succ, List.getElem?_append_left (by rw [List.length_map, h.no]; omega), List.getElem?_map]
  have : p.no[j]? = some (p.no.getD j false) := by
    rw [List.getElem?_eq_getElem (show j < p.no.length by rw [h.no]; exact hj)]
    simp [List.getD, List.getElem?_eq_getElem (show j < p.no.length by rw [h.no]; exact hj)]
  rw [this]
  rfl
theorem Po.ratL {p : Po} (h : p.sz) (v : Value) {j : Nat} (hj : j < 8) : (p.rcells v)[0 + 10 + j * 1]? = some (.int .u64 (p.la.getD j 0)) := by
  have e : 0 + 10 + j * 1 = (8 + j + 1) + 1 := by omega
  rw [e]
  unfold Po.rcells
  rw [List.getElem?_cons_succ, List.getElem?_cons_succ, List.getElem?_append_right (by rw [List.length_map, h.no]; omega), List.length_map, h.no, Nat.add_sub_cancel_left]
  unfold ints
  rw [List.getElem?_map, getD_of (show j < p.la.length by rw [h.la]; exact hj)]
  rfl
theorem vtR : VT Try.prog 27 5 Ru.ok ruV := .agg (cel := Ru.cells) (by kernel_rfl) (by kernel_rfl) (by decide) (fun _ => rfl) (fun r _ => Ru.len r) (fun r => Ru.ones r)
theorem rdRr {bv : Nat} {x : Ru} : RdOf (blkR bv 27 x.cells) (.slice (some ⟨bv, 0, none⟩) 1 1) 5 1 x.cells := RdOf.blk (Nat.le_refl _) (by unfold maxLen; omega) (by rw [Ru.len x]; omega) (by rw [List.drop_zero, List.take_of_length_le (by rw [Ru.len x]; omega)])
set_option maxRecDepth 100000 in
theorem rins_any (b : Nat) (ao : Option Addr) (ca : Nat) (p : Po) (z : Int) (r : Ru) (hro : UOk p.rl) (hln : p.rl.length ≤ 64) (hr : r.ok) (w : World) (hw : OK w (fpL (polS b ao ca p)) (polS b ao ca p) w) :
    Fn Try.prog 15 [.pointer (some ⟨b, 0, none⟩), .int .i64 z, ruV r] (polS b ao ca p) w (fun _ : Option Addr × Nat => True) (fun _ => .int .i64 (insE p z r)) (fun y => polS b y.1 y.2 (insP p z r)) := by
  unfold polS at hw ⊢
  unfold ruV
  obtain ⟨_, _, he, hcl, hml⟩ := (hw.get (r := rdR (.slice ao p.rl.length ca) 5 p.rl.length (vcs ruV p.rl)) (.tail .head) : Rd _ _ _ _ _).form
  cases he
  refine enterF Try.func15 rfl Try.ntmps15 rfl hw ?_
  refine WC.seq ?_
  refine WC.region ?_
  refine WL.to (To.box (cs := r.cells) rfl rfl) rfl ?_
  intro b5
  refine WL.y (Yl.assign rfl) rfl ?_
  refine WL.nil ?_
  refine WC.seq ?_
  refine WC.seq ?_
  refine WC.region ?_
  refine WL.y (Yl.loadN ag27 rfl (by repeat (first | exact Take1.head | apply Take1.tail)) (by rfl) (Ru.call r)) rfl ?_
  refine WL.callC (xs := [.tmp 7]) (cap := []) rfl rfl en10 (by repeat (first | exact TakeL.nil | (apply TakeL.cons; · repeat (first | exact Take1.head | apply Take1.tail)))) (fun w hw => rmay_any r w hw.left.here) rfl ?_
  rintro ⟨⟩ -
  refine WL.y (Yl.not rfl) rfl ?_
  refine WL.nil ?_
  refine WC.cond rfl (fun g9 => ?_) (fun g9 => ?_)
  · refine WC.seq ?_
    refine WC.region ?_
    refine WL.y (Yl.assign rfl) rfl ?_
    refine WL.nil ?_
    refine WC.ret ?_
    repeat (first | (with_reducible refine peelT ?_) | (with_reducible refine peelB ?_) | (with_reducible refine peelTX ?_) | (with_reducible refine peelBX ?_) | (with_reducible refine peelBN ?_) | (with_reducible refine peelBO rfl ?_))
    have hm : mayU r = false := by simpa using g9
    obtain ⟨e1, e2⟩ := insE_may (p := p) (z := z) hm
    rw [e1, e2]
    exact ret1 (.inr rfl) Try.results15 rfl fun w' h => ⟨(ao, ca), trivial, rfl, h.sub (by repeat (first | exact TakeL.nil | (apply TakeL.cons; · repeat (first | exact Take1.head | apply Take1.tail))))⟩
  · refine WC.skip ?_
    refine WC.seq ?_
    refine WC.seq ?_
    have hm : mayU r = true := by simpa using g9
    refine WC.region ?_
    refine WL.y (Yl.move rfl) rfl ?_
    refine WL.y (Yl.lss rfl rfl) rfl ?_
    refine WL.y (Yl.move rfl) rfl ?_
    refine WL.both (t := 12) rfl (fun g12 => ?_) (fun g12 => ?_)
    · refine WL.off rfl rfl rfl rfl ?_
      refine WL.off rfl rfl rfl rfl ?_
      refine WL.off rfl rfl rfl rfl ?_
      refine WL.off rfl rfl rfl rfl ?_
      refine WL.off rfl rfl rfl rfl ?_
      refine WL.off rfl rfl rfl rfl ?_
      refine WL.off rfl rfl rfl rfl ?_
      refine WL.y (Yl.pickT rfl rfl) rfl ?_
      refine WL.nil ?_
      refine WC.condT rfl (by first | rfl | (simp; done) | (simp; omega)) ?_
      refine WC.seq ?_
      refine WC.region ?_
      refine WL.y (Yl.assign rfl) rfl ?_
      refine WL.nil ?_
      refine WC.ret ?_
      repeat (first | (with_reducible refine peelT ?_) | (with_reducible refine peelB ?_) | (with_reducible refine peelTX ?_) | (with_reducible refine peelBX ?_) | (with_reducible refine peelBN ?_) | (with_reducible refine peelBO rfl ?_))
      obtain ⟨e1, e2⟩ := insE_at (p := p) hm (.inl (by simpa using g12))
      rw [e1, e2]
      exact ret1 (.inr rfl) Try.results15 rfl fun w' h => ⟨(ao, ca), trivial, rfl, h.sub (by repeat (first | exact TakeL.nil | (apply TakeL.cons; · repeat (first | exact Take1.head | apply Take1.tail))))⟩
    · refine WL.on rfl rfl ?_
      refine WL.y (Yl.move rfl) rfl ?_
      refine WL.on rfl rfl ?_
      refine WL.y (Yl.move rfl) rfl ?_
      refine WL.on rfl rfl ?_
      refine WL.y (Yl.nilCheck rfl) rfl ?_
      refine WL.on rfl rfl ?_
      refine WL.y (Yl.field fo42_1 rfl) rfl ?_
      refine WL.on rfl rfl ?_
      refine WL.y (Yl.load on38 rfl (by repeat (first | exact Take1.head | apply Take1.tail)) (by rfl)) rfl ?_
      refine WL.on rfl rfl ?_
      refine WL.y (Yl.len un38 rfl) rfl ?_
      refine WL.on rfl rfl ?_
      refine WL.y (Yl.gtr rfl rfl) rfl ?_
      refine WL.y (Yl.pickF rfl rfl) rfl ?_
      refine WL.nil ?_
      refine WC.condD rfl (fun g20 => ?_) (fun g20 => ?_)
      · refine WC.seq ?_
        refine WC.region ?_
        refine WL.y (Yl.assign rfl) rfl ?_
        refine WL.nil ?_
        refine WC.ret ?_
        repeat (first | (with_reducible refine peelT ?_) | (with_reducible refine peelB ?_) | (with_reducible refine peelTX ?_) | (with_reducible refine peelBX ?_) | (with_reducible refine peelBN ?_) | (with_reducible refine peelBO rfl ?_))
        obtain ⟨e1, e2⟩ := insE_at (p := p) hm (.inr (by simpa using g20))
        rw [e1, e2]
        exact ret1 (.inr rfl) Try.results15 rfl fun w' h => ⟨(ao, ca), trivial, rfl, h.sub (by repeat (first | exact TakeL.nil | (apply TakeL.cons; · repeat (first | exact Take1.head | apply Take1.tail))))⟩
      · refine WC.skip ?_
        refine WC.seq ?_
        refine WC.seq ?_
        have hz : ¬ (z < 0 ∨ (p.rl.length : Int) < z) := by
          have h1 : ¬ z < 0 := by simpa using g12
          have h2 : ¬ (p.rl.length : Int) < z := by simpa using g20
          omega
        refine WC.region ?_
        refine WL.y (Yl.move rfl) rfl ?_
        refine WL.y (Yl.nilCheck rfl) rfl ?_
        refine WL.y (Yl.field fo42_1 rfl) rfl ?_
        refine WL.y (Yl.load on38 rfl (by repeat (first | exact Take1.head | apply Take1.tail)) (by rfl)) rfl ?_
        refine WL.y (Yl.len un38 rfl) rfl ?_
        refine WL.y (Yl.eql rfl rfl) rfl ?_
        refine WL.nil ?_
        refine WC.condD rfl (fun g26 => ?_) (fun g26 => ?_)
        · refine WC.seq ?_
          refine WC.region ?_
          refine WL.y (Yl.assign rfl) rfl ?_
          refine WL.nil ?_
          refine WC.ret ?_
          repeat (first | (with_reducible refine peelT ?_) | (with_reducible refine peelB ?_) | (with_reducible refine peelTX ?_) | (with_reducible refine peelBX ?_) | (with_reducible refine peelBN ?_) | (with_reducible refine peelBO rfl ?_))
          obtain ⟨e1, e2⟩ := insE_full (p := p) hm hz (by have := g26; omega)
          rw [e1, e2]
          exact ret1 (.inr rfl) Try.results15 rfl fun w' h => ⟨(ao, ca), trivial, rfl, h.sub (by repeat (first | exact TakeL.nil | (apply TakeL.cons; · repeat (first | exact Take1.head | apply Take1.tail))))⟩
        · refine WC.skip ?_
          refine WC.seq ?_
          have hl64 : ¬ p.rl.length = 64 := by have := g26; omega
          obtain ⟨e1, e2⟩ := insE_ok (p := p) hm hz hl64
          obtain ⟨i, hi⟩ : ∃ i : Nat, (i : Int) = z := ⟨z.toNat, by omega⟩
          subst hi
          rw [Int.toNat_natCast] at e2
          have hil : i ≤ p.rl.length := by omega
          have hlen := insU_len r hil
          refine WC.drawLast 21 (Hs := [blkR b 42 (p.rcells (.slice ao p.rl.length ca)), rdR (.slice ao p.rl.length ca) 5 p.rl.length (vcs ruV p.rl), blkR b5 27 r.cells]) rfl rfl mixed (by kernel_rfl) ⟨_, (by repeat (first | exact TakeL.nil | (apply TakeL.cons; · repeat (first | exact Take1.head | apply Take1.tail))))⟩ ?_
          dsimp only [List.dropLast]
          refine WD.take 0 rfl (by kernel_rfl) (by kernel_rfl) (by kernel_rfl) rfl rfl (Yl.move rfl) rfl ?_
          refine WD.take 2 rfl (by kernel_rfl) (by kernel_rfl) (by kernel_rfl) rfl rfl (Yl.move rfl) rfl ?_
          refine WD.take 3 rfl (by kernel_rfl) (by kernel_rfl) (by kernel_rfl) rfl rfl (Yl.nilCheck rfl) rfl ?_
          refine WD.take 4 rfl (by kernel_rfl) (by kernel_rfl) (by kernel_rfl) rfl rfl (Yl.field fo42_1 rfl) rfl ?_
          refine WD.take 5 rfl (by kernel_rfl) (by kernel_rfl) (by kernel_rfl) rfl rfl (Yl.load on38 rfl (by repeat (first | exact Take1.head | apply Take1.tail)) (by rfl)) rfl ?_
          refine WD.take 6 rfl (by kernel_rfl) (by kernel_rfl) (by kernel_rfl) rfl rfl (Yl.move rfl) rfl ?_
          refine WD.take 7 rfl (by kernel_rfl) (by kernel_rfl) (by kernel_rfl) rfl rfl (Yl.slice un38 sz27 rfl rfl ⟨_, rfl⟩ (by omega) (by omega)) rfl ?_
          refine WD.take 9 rfl (by kernel_rfl) (by kernel_rfl) (by kernel_rfl) rfl rfl (Yl.loadN ag27 rfl (by repeat (first | exact Take1.head | apply Take1.tail)) (by rfl) (Ru.call r)) rfl ?_
          refine WD.take 12 rfl (by kernel_rfl) (by kernel_rfl) (by kernel_rfl) rfl rfl (Yl.move rfl) rfl ?_
          refine WD.take 13 rfl (by kernel_rfl) (by kernel_rfl) (by kernel_rfl) rfl rfl (Yl.nilCheck rfl) rfl ?_
          refine WD.take 14 rfl (by kernel_rfl) (by kernel_rfl) (by kernel_rfl) rfl rfl (Yl.field fo42_1 rfl) rfl ?_
          refine WD.take 15 rfl (by kernel_rfl) (by kernel_rfl) (by kernel_rfl) rfl rfl (Yl.load on38 rfl (by repeat (first | exact Take1.head | apply Take1.tail)) (by rfl)) rfl ?_
          refine WD.take 16 rfl (by kernel_rfl) (by kernel_rfl) (by kernel_rfl) rfl rfl (Yl.move rfl) rfl ?_
          refine WD.take 17 rfl (by kernel_rfl) (by kernel_rfl) (by kernel_rfl) rfl rfl (Yl.slice un38 sz27 rfl ⟨_, rfl⟩ rfl (by omega) (by omega)) rfl ?_
          refine WD.two 1 10 (by kernel_rfl) ?_ ?_
          · refine WO.to rfl rfl .no (To.buildSlice (vs := []) un38 zs27 rfl rfl (by simp [Value.cells]) (by decide) (by decide)) rfl (fun _ => ⟨_, (by repeat (first | exact TakeL.nil | (apply TakeL.cons; · repeat (first | exact Take1.head | apply Take1.tail))))⟩) ?_
            intro b28
            rw [show flat [] = [] from rfl]
            refine WD.view (fun w h => h.blkOwn (b := b28) (size := 5) (n := 0) (by repeat (first | exact Take1.head | apply Take1.tail)) (by unfold maxLen; omega) rfl) ?_
            refine WD.two 8 10 (by kernel_rfl) ?_ ?_
            · refine WO.to rfl rfl .no (To.append sl38 rfl rfl (by repeat (first | exact Take1.head | apply Take1.tail)) (Reads.of (RdOf.sub (r := rdR (.slice ao p.rl.length ca) 5 p.rl.length (vcs ruV p.rl)) RdOf.rd' (Nat.zero_le _) hil (cs' := vcs ruV (p.rl.take i)) (by rw [Nat.zero_mul, List.drop_zero, Nat.sub_zero, ru_take hro])) (by repeat (first | exact Take1.head | apply Take1.tail))) (vtR.ones _) (by rw [Nat.sub_zero, Nat.zero_add]) (List.nil_append _) (by unfold maxLen; omega) (by omega)) rfl (fun _ => ⟨_, (by repeat (first | exact TakeL.nil | (apply TakeL.cons; · repeat (first | exact Take1.head | apply Take1.tail))))⟩) ?_
              rintro ⟨⟨ao35, c35⟩, hc35⟩
              dsimp only at hc35 ⊢
              refine WD.one 10 (by kernel_rfl) ?_
              refine WO.to rfl rfl .no (To.buildSlice (vs := [.agg r.cells.toArray]) un38 zs27 rfl rfl (by simp [Value.cells, Ru.cells]) (by decide) (by decide)) rfl (fun _ => ⟨_, (by repeat (first | exact TakeL.nil | (apply TakeL.cons; · repeat (first | exact Take1.head | apply Take1.tail))))⟩) ?_
              intro b37
              rw [flat1]
              refine WD.one 11 (by kernel_rfl) ?_
              refine WO.to rfl rfl .no (To.append sl38 rfl rfl (by repeat (first | exact Take1.head | apply Take1.tail)) (Reads.of (r := blkR b37 27 r.cells) rdRr (by repeat (first | exact Take1.head | apply Take1.tail))) (Ru.ones r) rfl (show vcs ruV (p.rl.take i) ++ r.cells = vcs ruV (p.rl.take i ++ [r]) by rw [vcs_app, vcs_one]; rfl) (by unfold maxLen; omega) (by omega)) rfl (fun _ => ⟨_, (by repeat (first | exact TakeL.nil | (apply TakeL.cons; · repeat (first | exact Take1.head | apply Take1.tail))))⟩) ?_
              rintro ⟨⟨ao38, c38⟩, hc38⟩
              dsimp only at hc38 ⊢
              refine WD.one 18 (by kernel_rfl) ?_
              refine WO.to rfl rfl .no (To.append sl38 rfl rfl (by repeat (first | exact Take1.head | apply Take1.tail)) (Reads.of (RdOf.sub (r := rdR (.slice ao p.rl.length ca) 5 p.rl.length (vcs ruV p.rl)) RdOf.rd' hil (Nat.le_refl _) (cs' := vcs ruV (p.rl.drop i)) (by rw [ru_drop hro, List.take_of_length_le (by rw [ru_len (fun r h => hro r (List.mem_of_mem_drop h)), List.length_drop]; exact Nat.le_refl _)])) (by repeat (first | exact Take1.head | apply Take1.tail))) (vtR.ones _) (show i + 1 + (p.rl.length - i) = (insU p.rl i r).length by rw [hlen]; omega) (show vcs ruV (p.rl.take i ++ [r]) ++ vcs ruV (p.rl.drop i) = vcs ruV (insU p.rl i r) by rw [← vcs_app, List.append_assoc]; rfl) (by unfold maxLen; omega) (by omega)) rfl (fun _ => ⟨_, (by repeat (first | exact TakeL.nil | (apply TakeL.cons; · repeat (first | exact Take1.head | apply Take1.tail))))⟩) ?_
              rintro ⟨⟨ao45, c45⟩, hc45⟩
              dsimp only at hc45 ⊢
              refine WD.take 19 rfl (by kernel_rfl) (by kernel_rfl) (by kernel_rfl) rfl rfl (Yl.nilCheck rfl) rfl ?_
              refine WD.take 20 rfl (by kernel_rfl) (by kernel_rfl) (by kernel_rfl) rfl rfl (Yl.field fo42_1 rfl) rfl ?_
              refine WD.done (by kernel_rfl) ?_
              refine ⟨_, (Sto.one sz38 rfl rfl (by repeat (first | exact Take1.head | apply Take1.tail)) rfl (by rfl) (by rfl)), ?_⟩
              refine WC.seq ?_
              refine WC.region ?_
              refine WL.y (Yl.assign rfl) rfl ?_
              refine WL.nil ?_
              refine WC.ret ?_
              repeat (first | (with_reducible refine peelT ?_) | (with_reducible refine peelB ?_) | (with_reducible refine peelTX ?_) | (with_reducible refine peelBX ?_) | (with_reducible refine peelBN ?_) | (with_reducible refine peelBO rfl ?_))
              rw [e1, e2]
              exact ret1 (.inr rfl) Try.results15 rfl fun w' h => ⟨(ao45, c45), trivial, rfl, (h.readOnly (v := .slice ao45 (insU p.rl i r).length c45) (by repeat (first | exact Take1.head | apply Take1.tail))).sub (by repeat (first | exact TakeL.nil | (apply TakeL.cons; · repeat (first | exact Take1.head | apply Take1.tail))))⟩
            · refine WO.to rfl rfl .no (To.buildSlice (vs := [.agg r.cells.toArray]) un38 zs27 rfl rfl (by simp [Value.cells, Ru.cells]) (by decide) (by decide)) rfl (fun _ => ⟨_, (by repeat (first | exact TakeL.nil | (apply TakeL.cons; · repeat (first | exact Take1.head | apply Take1.tail))))⟩) ?_
              intro b37
              rw [flat1]
              refine WD.one 8 (by kernel_rfl) ?_
              refine WO.to rfl rfl .no (To.append sl38 rfl rfl (by repeat (first | exact Take1.head | apply Take1.tail)) (Reads.of (RdOf.sub (r := rdR (.slice ao p.rl.length ca) 5 p.rl.length (vcs ruV p.rl)) RdOf.rd' (Nat.zero_le _) hil (cs' := vcs ruV (p.rl.take i)) (by rw [Nat.zero_mul, List.drop_zero, Nat.sub_zero, ru_take hro])) (by repeat (first | exact Take1.head | apply Take1.tail))) (vtR.ones _) (by rw [Nat.sub_zero, Nat.zero_add]) (List.nil_append _) (by unfold maxLen; omega) (by omega)) rfl (fun _ => ⟨_, (by repeat (first | exact TakeL.nil | (apply TakeL.cons; · repeat (first | exact Take1.head | apply Take1.tail))))⟩) ?_
              rintro ⟨⟨ao35, c35⟩, hc35⟩
              dsimp only at hc35 ⊢
              refine WD.one 11 (by kernel_rfl) ?_
              refine WO.to rfl rfl .no (To.append sl38 rfl rfl (by repeat (first | exact Take1.head | apply Take1.tail)) (Reads.of (r := blkR b37 27 r.cells) rdRr (by repeat (first | exact Take1.head | apply Take1.tail))) (Ru.ones r) rfl (show vcs ruV (p.rl.take i) ++ r.cells = vcs ruV (p.rl.take i ++ [r]) by rw [vcs_app, vcs_one]; rfl) (by unfold maxLen; omega) (by omega)) rfl (fun _ => ⟨_, (by repeat (first | exact TakeL.nil | (apply TakeL.cons; · repeat (first | exact Take1.head | apply Take1.tail))))⟩) ?_
              rintro ⟨⟨ao38, c38⟩, hc38⟩
              dsimp only at hc38 ⊢
              refine WD.one 18 (by kernel_rfl) ?_
              refine WO.to rfl rfl .no (To.append sl38 rfl rfl (by repeat (first | exact Take1.head | apply Take1.tail)) (Reads.of (RdOf.sub (r := rdR (.slice ao p.rl.length ca) 5 p.rl.length (vcs ruV p.rl)) RdOf.rd' hil (Nat.le_refl _) (cs' := vcs ruV (p.rl.drop i)) (by rw [ru_drop hro, List.take_of_length_le (by rw [ru_len (fun r h => hro r (List.mem_of_mem_drop h)), List.length_drop]; exact Nat.le_refl _)])) (by repeat (first | exact Take1.head | apply Take1.tail))) (vtR.ones _) (show i + 1 + (p.rl.length - i) = (insU p.rl i r).length by rw [hlen]; omega) (show vcs ruV (p.rl.take i ++ [r]) ++ vcs ruV (p.rl.drop i) = vcs ruV (insU p.rl i r) by rw [← vcs_app, List.append_assoc]; rfl) (by unfold maxLen; omega) (by omega)) rfl (fun _ => ⟨_, (by repeat (first | exact TakeL.nil | (apply TakeL.cons; · repeat (first | exact Take1.head | apply Take1.tail))))⟩) ?_
              rintro ⟨⟨ao45, c45⟩, hc45⟩
              dsimp only at hc45 ⊢
              refine WD.take 19 rfl (by kernel_rfl) (by kernel_rfl) (by kernel_rfl) rfl rfl (Yl.nilCheck rfl) rfl ?_
              refine WD.take 20 rfl (by kernel_rfl) (by kernel_rfl) (by kernel_rfl) rfl rfl (Yl.field fo42_1 rfl) rfl ?_
              refine WD.done (by kernel_rfl) ?_
              refine ⟨_, (Sto.one sz38 rfl rfl (by repeat (first | exact Take1.head | apply Take1.tail)) rfl (by rfl) (by rfl)), ?_⟩
              refine WC.seq ?_
              refine WC.region ?_
              refine WL.y (Yl.assign rfl) rfl ?_
              refine WL.nil ?_
              refine WC.ret ?_
              repeat (first | (with_reducible refine peelT ?_) | (with_reducible refine peelB ?_) | (with_reducible refine peelTX ?_) | (with_reducible refine peelBX ?_) | (with_reducible refine peelBN ?_) | (with_reducible refine peelBO rfl ?_))
              rw [e1, e2]
              exact ret1 (.inr rfl) Try.results15 rfl fun w' h => ⟨(ao45, c45), trivial, rfl, (h.readOnly (v := .slice ao45 (insU p.rl i r).length c45) (by repeat (first | exact Take1.head | apply Take1.tail))).sub (by repeat (first | exact TakeL.nil | (apply TakeL.cons; · repeat (first | exact Take1.head | apply Take1.tail))))⟩
          · refine WO.to rfl rfl .no (To.buildSlice (vs := [.agg r.cells.toArray]) un38 zs27 rfl rfl (by simp [Value.cells, Ru.cells]) (by decide) (by decide)) rfl (fun _ => ⟨_, (by repeat (first | exact TakeL.nil | (apply TakeL.cons; · repeat (first | exact Take1.head | apply Take1.tail))))⟩) ?_
            intro b37
            rw [flat1]
            refine WD.one 1 (by kernel_rfl) ?_
            refine WO.to rfl rfl .no (To.buildSlice (vs := []) un38 zs27 rfl rfl (by simp [Value.cells]) (by decide) (by decide)) rfl (fun _ => ⟨_, (by repeat (first | exact TakeL.nil | (apply TakeL.cons; · repeat (first | exact Take1.head | apply Take1.tail))))⟩) ?_
            intro b28
            rw [show flat [] = [] from rfl]
            refine WD.view (fun w h => h.blkOwn (b := b28) (size := 5) (n := 0) (by repeat (first | exact Take1.head | apply Take1.tail)) (by unfold maxLen; omega) rfl) ?_
            refine WD.one 8 (by kernel_rfl) ?_
            refine WO.to rfl rfl .no (To.append sl38 rfl rfl (by repeat (first | exact Take1.head | apply Take1.tail)) (Reads.of (RdOf.sub (r := rdR (.slice ao p.rl.length ca) 5 p.rl.length (vcs ruV p.rl)) RdOf.rd' (Nat.zero_le _) hil (cs' := vcs ruV (p.rl.take i)) (by rw [Nat.zero_mul, List.drop_zero, Nat.sub_zero, ru_take hro])) (by repeat (first | exact Take1.head | apply Take1.tail))) (vtR.ones _) (by rw [Nat.sub_zero, Nat.zero_add]) (List.nil_append _) (by unfold maxLen; omega) (by omega)) rfl (fun _ => ⟨_, (by repeat (first | exact TakeL.nil | (apply TakeL.cons; · repeat (first | exact Take1.head | apply Take1.tail))))⟩) ?_
            rintro ⟨⟨ao35, c35⟩, hc35⟩
            dsimp only at hc35 ⊢
            refine WD.one 11 (by kernel_rfl) ?_
            refine WO.to rfl rfl .no (To.append sl38 rfl rfl (by repeat (first | exact Take1.head | apply Take1.tail)) (Reads.of (r := blkR b37 27 r.cells) rdRr (by repeat (first | exact Take1.head | apply Take1.tail))) (Ru.ones r) rfl (show vcs ruV (p.rl.take i) ++ r.cells = vcs ruV (p.rl.take i ++ [r]) by rw [vcs_app, vcs_one]; rfl) (by unfold maxLen; omega) (by omega)) rfl (fun _ => ⟨_, (by repeat (first | exact TakeL.nil | (apply TakeL.cons; · repeat (first | exact Take1.head | apply Take1.tail))))⟩) ?_
            rintro ⟨⟨ao38, c38⟩, hc38⟩
            dsimp only at hc38 ⊢
            refine WD.one 18 (by kernel_rfl) ?_
            refine WO.to rfl rfl .no (To.append sl38 rfl rfl (by repeat (first | exact Take1.head | apply Take1.tail)) (Reads.of (RdOf.sub (r := rdR (.slice ao p.rl.length ca) 5 p.rl.length (vcs ruV p.rl)) RdOf.rd' hil (Nat.le_refl _) (cs' := vcs ruV (p.rl.drop i)) (by rw [ru_drop hro, List.take_of_length_le (by rw [ru_len (fun r h => hro r (List.mem_of_mem_drop h)), List.length_drop]; exact Nat.le_refl _)])) (by repeat (first | exact Take1.head | apply Take1.tail))) (vtR.ones _) (show i + 1 + (p.rl.length - i) = (insU p.rl i r).length by rw [hlen]; omega) (show vcs ruV (p.rl.take i ++ [r]) ++ vcs ruV (p.rl.drop i) = vcs ruV (insU p.rl i r) by rw [← vcs_app, List.append_assoc]; rfl) (by unfold maxLen; omega) (by omega)) rfl (fun _ => ⟨_, (by repeat (first | exact TakeL.nil | (apply TakeL.cons; · repeat (first | exact Take1.head | apply Take1.tail))))⟩) ?_
            rintro ⟨⟨ao45, c45⟩, hc45⟩
            dsimp only at hc45 ⊢
            refine WD.take 19 rfl (by kernel_rfl) (by kernel_rfl) (by kernel_rfl) rfl rfl (Yl.nilCheck rfl) rfl ?_
            refine WD.take 20 rfl (by kernel_rfl) (by kernel_rfl) (by kernel_rfl) rfl rfl (Yl.field fo42_1 rfl) rfl ?_
            refine WD.done (by kernel_rfl) ?_
            refine ⟨_, (Sto.one sz38 rfl rfl (by repeat (first | exact Take1.head | apply Take1.tail)) rfl (by rfl) (by rfl)), ?_⟩
            refine WC.seq ?_
            refine WC.region ?_
            refine WL.y (Yl.assign rfl) rfl ?_
            refine WL.nil ?_
            refine WC.ret ?_
            repeat (first | (with_reducible refine peelT ?_) | (with_reducible refine peelB ?_) | (with_reducible refine peelTX ?_) | (with_reducible refine peelBX ?_) | (with_reducible refine peelBN ?_) | (with_reducible refine peelBO rfl ?_))
            rw [e1, e2]
            exact ret1 (.inr rfl) Try.results15 rfl fun w' h => ⟨(ao45, c45), trivial, rfl, (h.readOnly (v := .slice ao45 (insU p.rl i r).length c45) (by repeat (first | exact Take1.head | apply Take1.tail))).sub (by repeat (first | exact TakeL.nil | (apply TakeL.cons; · repeat (first | exact Take1.head | apply Take1.tail))))⟩
set_option maxRecDepth 100000 in
theorem rrem_any (b : Nat) (ao : Option Addr) (ca : Nat) (p : Po) (z : Int) (hro : UOk p.rl) (hln : p.rl.length ≤ 64) (w : World) (hw : OK w (fpL (polS b ao ca p)) (polS b ao ca p) w) :
    Fn Try.prog 17 [.pointer (some ⟨b, 0, none⟩), .int .i64 z] (polS b ao ca p) w (fun _ : Option Addr × Nat => True) (fun _ => .int .i64 (remE p z)) (fun y => polS b y.1 y.2 (remP p z)) := by
  unfold polS at hw ⊢
  obtain ⟨_, _, he, hcl, hml⟩ := (hw.get (r := rdR (.slice ao p.rl.length ca) 5 p.rl.length (vcs ruV p.rl)) (.tail .head) : Rd _ _ _ _ _).form
  cases he
  refine enterF Try.func17 rfl Try.ntmps17 rfl hw ?_
  refine WC.seq ?_
  refine WC.region ?_
  refine WL.y (Yl.assign rfl) rfl ?_
  refine WL.nil ?_
  refine WC.seq ?_
  refine WC.seq ?_
  refine WC.region ?_
  refine WL.y (Yl.move rfl) rfl ?_
  refine WL.y (Yl.lss rfl rfl) rfl ?_
  refine WL.y (Yl.move rfl) rfl ?_
  refine WL.both (t := 7) rfl (fun g7 => ?_) (fun g7 => ?_)
  · refine WL.off rfl rfl rfl rfl ?_
    refine WL.off rfl rfl rfl rfl ?_
    refine WL.off rfl rfl rfl rfl ?_
    refine WL.off rfl rfl rfl rfl ?_
    refine WL.off rfl rfl rfl rfl ?_
    refine WL.off rfl rfl rfl rfl ?_
    refine WL.off rfl rfl rfl rfl ?_
    refine WL.y (Yl.pickT rfl rfl) rfl ?_
    refine WL.nil ?_
    refine WC.condT rfl (by first | rfl | (simp; done) | (simp; omega)) ?_
    refine WC.seq ?_
    refine WC.region ?_
    refine WL.y (Yl.assign rfl) rfl ?_
    refine WL.nil ?_
    refine WC.ret ?_
    repeat (first | (with_reducible refine peelT ?_) | (with_reducible refine peelB ?_) | (with_reducible refine peelTX ?_) | (with_reducible refine peelBX ?_) | (with_reducible refine peelBN ?_) | (with_reducible refine peelBO rfl ?_))
    have hz : z < 0 ∨ (p.rl.length : Int) ≤ z := .inl (by simpa using g7)
    unfold remE remP
    rw [if_pos hz, if_pos hz]
    exact ret1 (.inr rfl) Try.results17 rfl fun w' h => ⟨(ao, ca), trivial, rfl, h.sub (by repeat (first | exact TakeL.nil | (apply TakeL.cons; · repeat (first | exact Take1.head | apply Take1.tail))))⟩
  · refine WL.on rfl rfl ?_
    refine WL.y (Yl.move rfl) rfl ?_
    refine WL.on rfl rfl ?_
    refine WL.y (Yl.move rfl) rfl ?_
    refine WL.on rfl rfl ?_
    refine WL.y (Yl.nilCheck rfl) rfl ?_
    refine WL.on rfl rfl ?_
    refine WL.y (Yl.field fo42_1 rfl) rfl ?_
    refine WL.on rfl rfl ?_
    refine WL.y (Yl.load on38 rfl (by repeat (first | exact Take1.head | apply Take1.tail)) (by rfl)) rfl ?_
    refine WL.on rfl rfl ?_
    refine WL.y (Yl.len un38 rfl) rfl ?_
    refine WL.on rfl rfl ?_
    refine WL.y (Yl.geq rfl rfl) rfl ?_
    refine WL.y (Yl.pickF rfl rfl) rfl ?_
    refine WL.nil ?_
    refine WC.condD rfl (fun g15 => ?_) (fun g15 => ?_)
    · refine WC.seq ?_
      refine WC.region ?_
      refine WL.y (Yl.assign rfl) rfl ?_
      refine WL.nil ?_
      refine WC.ret ?_
      repeat (first | (with_reducible refine peelT ?_) | (with_reducible refine peelB ?_) | (with_reducible refine peelTX ?_) | (with_reducible refine peelBX ?_) | (with_reducible refine peelBN ?_) | (with_reducible refine peelBO rfl ?_))
      have hz : z < 0 ∨ (p.rl.length : Int) ≤ z := .inr (by simpa using g15)
      unfold remE remP
      rw [if_pos hz, if_pos hz]
      exact ret1 (.inr rfl) Try.results17 rfl fun w' h => ⟨(ao, ca), trivial, rfl, h.sub (by repeat (first | exact TakeL.nil | (apply TakeL.cons; · repeat (first | exact Take1.head | apply Take1.tail))))⟩
    · refine WC.skip ?_
      refine WC.seq ?_
      have hz : ¬ (z < 0 ∨ (p.rl.length : Int) ≤ z) := by
        have h1 : ¬ z < 0 := by simpa using g7
        have h2 : ¬ (p.rl.length : Int) ≤ z := by simpa using g15
        omega
      obtain ⟨i, hi⟩ : ∃ i : Nat, (i : Int) = z := ⟨z.toNat, by omega⟩
      subst hi
      have hil : i < p.rl.length := by omega
      have hlen := delU_len hil
      refine WC.drawLast 19 (Hs := [blkR b 42 (p.rcells (.slice ao p.rl.length ca)), rdR (.slice ao p.rl.length ca) 5 p.rl.length (vcs ruV p.rl)]) rfl rfl mixed (by kernel_rfl) ⟨_, (by repeat (first | exact TakeL.nil | (apply TakeL.cons; · repeat (first | exact Take1.head | apply Take1.tail))))⟩ ?_
      dsimp only [List.dropLast]
      refine WD.take 0 rfl (by kernel_rfl) (by kernel_rfl) (by kernel_rfl) rfl rfl (Yl.move rfl) rfl ?_
      refine WD.take 2 rfl (by kernel_rfl) (by kernel_rfl) (by kernel_rfl) rfl rfl (Yl.move rfl) rfl ?_
      refine WD.take 3 rfl (by kernel_rfl) (by kernel_rfl) (by kernel_rfl) rfl rfl (Yl.nilCheck rfl) rfl ?_
      refine WD.take 4 rfl (by kernel_rfl) (by kernel_rfl) (by kernel_rfl) rfl rfl (Yl.field fo42_1 rfl) rfl ?_
      refine WD.take 5 rfl (by kernel_rfl) (by kernel_rfl) (by kernel_rfl) rfl rfl (Yl.load on38 rfl (by repeat (first | exact Take1.head | apply Take1.tail)) (by rfl)) rfl ?_
      refine WD.take 6 rfl (by kernel_rfl) (by kernel_rfl) (by kernel_rfl) rfl rfl (Yl.move rfl) rfl ?_
      refine WD.take 7 rfl (by kernel_rfl) (by kernel_rfl) (by kernel_rfl) rfl rfl (Yl.slice un38 sz27 rfl rfl ⟨_, rfl⟩ (by omega) (by omega)) rfl ?_
      refine WD.take 9 rfl (by kernel_rfl) (by kernel_rfl) (by kernel_rfl) rfl rfl (Yl.move rfl) rfl ?_
      refine WD.take 10 rfl (by kernel_rfl) (by kernel_rfl) (by kernel_rfl) rfl rfl (Yl.nilCheck rfl) rfl ?_
      refine WD.take 11 rfl (by kernel_rfl) (by kernel_rfl) (by kernel_rfl) rfl rfl (Yl.field fo42_1 rfl) rfl ?_
      refine WD.take 12 rfl (by kernel_rfl) (by kernel_rfl) (by kernel_rfl) rfl rfl (Yl.load on38 rfl (by repeat (first | exact Take1.head | apply Take1.tail)) (by rfl)) rfl ?_
      refine WD.take 13 rfl (by kernel_rfl) (by kernel_rfl) (by kernel_rfl) rfl rfl (Yl.move rfl) rfl ?_
      refine WD.take 14 rfl (by kernel_rfl) (by kernel_rfl) (by kernel_rfl) rfl rfl (Yl.add rfl rfl (IntWalk.i64_in _ (by omega))) rfl ?_
      refine WD.say (t := 30) (v' := .int .i64 ((i + 1 : Nat) : Int)) rfl (by rfl) ?_
      refine WD.take 15 rfl (by kernel_rfl) (by kernel_rfl) (by kernel_rfl) rfl rfl (Yl.slice un38 sz27 rfl ⟨_, rfl⟩ rfl (by omega) (by omega)) rfl ?_
      refine WD.one 1 (by kernel_rfl) ?_
      refine WO.to rfl rfl .no (To.buildSlice (vs := []) un38 zs27 rfl rfl (by simp [Value.cells]) (by decide) (by decide)) rfl (fun _ => ⟨_, (by repeat (first | exact TakeL.nil | (apply TakeL.cons; · repeat (first | exact Take1.head | apply Take1.tail))))⟩) ?_
      intro b17
      rw [show flat [] = [] from rfl]
      refine WD.view (fun w h => h.blkOwn (b := b17) (size := 5) (n := 0) (by repeat (first | exact Take1.head | apply Take1.tail)) (by unfold maxLen; omega) rfl) ?_
      refine WD.one 8 (by kernel_rfl) ?_
      refine WO.to rfl rfl .no (To.append sl38 rfl rfl (by repeat (first | exact Take1.head | apply Take1.tail)) (Reads.of (RdOf.sub (r := rdR (.slice ao p.rl.length ca) 5 p.rl.length (vcs ruV p.rl)) RdOf.rd' (Nat.zero_le _) (Nat.le_of_lt hil) (cs' := vcs ruV (p.rl.take i)) (by rw [Nat.zero_mul, List.drop_zero, Nat.sub_zero, ru_take hro])) (by repeat (first | exact Take1.head | apply Take1.tail))) (vtR.ones _) (by rw [Nat.sub_zero, Nat.zero_add]) (List.nil_append _) (by unfold maxLen; omega) (by omega)) rfl (fun _ => ⟨_, (by repeat (first | exact TakeL.nil | (apply TakeL.cons; · repeat (first | exact Take1.head | apply Take1.tail))))⟩) ?_
      rintro ⟨⟨ao24, c24⟩, hc24⟩
      dsimp only at hc24 ⊢
      refine WD.one 16 (by kernel_rfl) ?_
      refine WO.to rfl rfl .no (To.append sl38 rfl rfl (by repeat (first | exact Take1.head | apply Take1.tail)) (Reads.of (RdOf.sub (r := rdR (.slice ao p.rl.length ca) 5 p.rl.length (vcs ruV p.rl)) RdOf.rd' hil (Nat.le_refl _) (cs' := vcs ruV (p.rl.drop (i + 1))) (by rw [show i.succ = i + 1 from rfl, ru_drop hro, List.take_of_length_le (by rw [ru_len (fun r h => hro r (List.mem_of_mem_drop h)), List.length_drop]; exact Nat.le_refl _)])) (by repeat (first | exact Take1.head | apply Take1.tail))) (vtR.ones _) (show i + (p.rl.length - (i + 1)) = (delU p.rl i).length by omega) (show vcs ruV (p.rl.take i) ++ vcs ruV (p.rl.drop (i + 1)) = vcs ruV (delU p.rl i) by rw [← vcs_app]; rfl) (by unfold maxLen; omega) (by omega)) rfl (fun _ => ⟨_, (by repeat (first | exact TakeL.nil | (apply TakeL.cons; · repeat (first | exact Take1.head | apply Take1.tail))))⟩) ?_
      rintro ⟨⟨ao32, c32⟩, hc32⟩
      dsimp only at hc32 ⊢
      refine WD.take 17 rfl (by kernel_rfl) (by kernel_rfl) (by kernel_rfl) rfl rfl (Yl.nilCheck rfl) rfl ?_
      refine WD.take 18 rfl (by kernel_rfl) (by kernel_rfl) (by kernel_rfl) rfl rfl (Yl.field fo42_1 rfl) rfl ?_
      refine WD.done (by kernel_rfl) ?_
      refine ⟨_, (Sto.one sz38 rfl rfl (by repeat (first | exact Take1.head | apply Take1.tail)) rfl (by rfl) (by rfl)), ?_⟩
      refine WC.seq ?_
      refine WC.region ?_
      refine WL.y (Yl.assign rfl) rfl ?_
      refine WL.nil ?_
      refine WC.ret ?_
      repeat (first | (with_reducible refine peelT ?_) | (with_reducible refine peelB ?_) | (with_reducible refine peelTX ?_) | (with_reducible refine peelBX ?_) | (with_reducible refine peelBN ?_) | (with_reducible refine peelBO rfl ?_))
      have e1 : remE p (i : Int) = 0 := by unfold remE; rw [if_neg hz]
      have e2 : remP p (i : Int) = { p with rl := delU p.rl i } := by unfold remP; rw [if_neg hz, Int.toNat_natCast]
      rw [e1, e2]
      exact ret1 (.inr rfl) Try.results17 rfl fun w' h => ⟨(ao32, c32), trivial, rfl, (h.readOnly (v := .slice ao32 (delU p.rl i).length c32) (by repeat (first | exact Take1.head | apply Take1.tail))).sub (by repeat (first | exact TakeL.nil | (apply TakeL.cons; · repeat (first | exact Take1.head | apply Take1.tail))))⟩
theorem fir_at {l : List Ru} {a now : Int} {i : Nat} {x : Ru} (hx : l[i]? = some x) (hf : fitU x a now = true) (hs : ∀ (k : Nat) y, k < i → l[k]? = some y → fitU y a now = false) : firU l a now = some i := by
  obtain ⟨hjl, hje⟩ := List.getElem?_eq_some_iff.1 hx
  exact List.findIdx?_eq_some_iff_getElem.2 ⟨hjl, by rw [hje]; exact hf, fun k hk => by
    have := hs k _ hk (List.getElem?_eq_getElem (by omega))
    simp [this]⟩
theorem fir_no {l : List Ru} {a now : Int} (hs : ∀ (k : Nat) y, k < l.length → l[k]? = some y → fitU y a now = false) : firU l a now = none :=
  List.findIdx?_eq_none_iff.2 fun x hx => by
    obtain ⟨k, hk⟩ := List.mem_iff_getElem?.1 hx
    exact hs k x (List.getElem?_eq_some_iff.1 hk).1 hk
set_option maxRecDepth 100000 in
theorem rdec_any (b : Nat) (ao : Option Addr) (ca : Nat) (p : Po) (a now : Int) (hn : 0 ≤ now ∧ now < 18446744073709551616) (hro : UOk p.rl) (hln : p.rl.length ≤ 64) (w : World) (hw : OK w (fpL (polS b ao ca p)) (polS b ao ca p) w) :
    Fn Try.prog 38 [.pointer (some ⟨b, 0, none⟩), .int .u8 a, .int .u64 now] (polS b ao ca p) w (fun _ : Unit => True) (fun _ => .int .i64 (atI (firU p.rl a now))) (fun _ => polS b ao ca p) := by
  unfold polS at hw ⊢
  obtain ⟨_, _, he, hcl, hml⟩ := (hw.get (r := rdR (.slice ao p.rl.length ca) 5 p.rl.length (vcs ruV p.rl)) (.tail .head) : Rd _ _ _ _ _).form
  cases he
  refine enterF Try.func38 rfl Try.ntmps38 rfl hw ?_
  refine WC.seq ?_
  refine WC.region ?_
  refine WL.y (Yl.assign rfl) rfl ?_
  refine WL.nil ?_
  refine WC.seq ?_
  refine WC.seq ?_
  refine WC.region ?_
  refine WL.y (Yl.assign rfl) rfl ?_
  refine WL.nil ?_
  refine WC.block ?_
  refine WC.loop (α := Nat) (fun k => [(0, .pointer (some ⟨b, 0, none⟩)), (1, .int .u8 a), (2, .int .u64 now), (7, .int .i64 (k : Int))]) (fun k => [blkR b 42 (p.rcells (.slice ao p.rl.length ca)), rdR (.slice ao p.rl.length ca) 5 p.rl.length (vcs ruV p.rl)]) (fun k => k ≤ p.rl.length ∧ ∀ (j : Nat) y, j < k → p.rl[j]? = some y → fitU y a now = false) (fun k => p.rl.length - k) 0 ⟨Nat.zero_le _, fun j y h => by omega⟩ ⟨(by repeat (first | exact Sub.nil | refine Sub.cons rfl ?_)), _, (by repeat (first | exact TakeL.nil | (apply TakeL.cons; · repeat (first | exact Take1.head | apply Take1.tail))))⟩ ?_
  rintro k ⟨hk, hs⟩
  refine WC.seq ?_
  refine WC.seq ?_
  refine WC.region ?_
  refine WL.y (Yl.move rfl) rfl ?_
  refine WL.y (Yl.move rfl) rfl ?_
  refine WL.y (Yl.nilCheck rfl) rfl ?_
  refine WL.y (Yl.field fo42_1 rfl) rfl ?_
  refine WL.y (Yl.load on38 rfl (by repeat (first | exact Take1.head | apply Take1.tail)) (by rfl)) rfl ?_
  refine WL.y (Yl.len un38 rfl) rfl ?_
  refine WL.y (Yl.lss rfl rfl) rfl ?_
  refine WL.nil ?_
  refine WC.condD rfl (fun g14 => ?_) (fun g14 => ?_)
  · refine WC.skip ?_
    refine WC.seq ?_
    refine WC.block ?_
    refine WC.seq ?_
    refine WC.region ?_
    refine WL.y (Yl.move rfl) rfl ?_
    refine WL.y (Yl.nilCheck rfl) rfl ?_
    refine WL.y (Yl.field fo42_1 rfl) rfl ?_
    refine WL.y (Yl.load on38 rfl (by repeat (first | exact Take1.head | apply Take1.tail)) (by rfl)) rfl ?_
    refine WL.y (Yl.move rfl) rfl ?_
    have hkl : k < p.rl.length := by simpa using g14
    obtain ⟨x, hx0⟩ : ∃ x, p.rl[k]? = some x := ⟨_, List.getElem?_eq_getElem hkl⟩
    refine WL.y (Yl.index un38 sz27 rfl rfl (Reads.of (r := rdR (.slice ao p.rl.length ca) 5 p.rl.length (vcs ruV p.rl)) RdOf.rd' (by repeat (first | exact Take1.head | apply Take1.tail))) rfl (by omega)) rfl ?_
    refine WL.y (Yl.loadV (j := k) (u := x) vtR hro rfl (Reads.of (r := rdR (.slice ao p.rl.length ca) 5 p.rl.length (vcs ruV p.rl)) RdOf.rd' (by repeat (first | exact Take1.head | apply Take1.tail))) rfl hx0) rfl ?_
    refine WL.y (Yl.move rfl) rfl ?_
    refine WL.y (Yl.move rfl) rfl ?_
    refine WL.callC (xs := [.tmp 23, .tmp 24, .tmp 25]) (cap := []) rfl rfl en12 (by repeat (first | exact TakeL.nil | (apply TakeL.cons; · repeat (first | exact Take1.head | apply Take1.tail)))) (fun w hw => rfits_any x a now hn w hw.left.here) rfl ?_
    rintro ⟨⟩ -
    refine WL.nil ?_
    refine WC.cond rfl (fun g26 => ?_) (fun g26 => ?_)
    · refine WC.seq ?_
      refine WC.region ?_
      refine WL.y (Yl.move rfl) rfl ?_
      refine WL.y (Yl.assign rfl) rfl ?_
      refine WL.nil ?_
      refine WC.ret ?_
      repeat (first | (with_reducible refine peelT ?_) | (with_reducible refine peelB ?_) | (with_reducible refine peelTX ?_) | (with_reducible refine peelBX ?_) | (with_reducible refine peelBN ?_) | (with_reducible refine peelBO rfl ?_))
      rw [fir_at hx0 g26 hs]
      exact ret1 (.inr rfl) Try.results38 rfl fun w' h => ⟨(), trivial, rfl, h.sub (by repeat (first | exact TakeL.nil | (apply TakeL.cons; · repeat (first | exact Take1.head | apply Take1.tail))))⟩
    · refine WC.skip ?_
      refine WC.region ?_
      refine WL.y (Yl.move rfl) rfl ?_
      refine WL.y (Yl.add rfl rfl (IntWalk.i64_in _ (by omega))) rfl ?_
      refine WL.y (Yl.assign rfl) rfl ?_
      refine WL.nil ?_
      exact ⟨rfl, k + 1, ⟨by omega, fun j y hj hy => by
        by_cases e : j = k
        · subst e
          rw [hx0] at hy
          cases hy
          simpa using g26
        · exact hs j y (by omega) hy⟩, by omega, (by repeat (first | exact Sub.nil | refine Sub.cons rfl ?_)), _, (by repeat (first | exact TakeL.nil | (apply TakeL.cons; · repeat (first | exact Take1.head | apply Take1.tail))))⟩
  · refine WC.exit ?_
    refine WC.seq ?_
    refine WC.region ?_
    refine WL.y (Yl.assign rfl) rfl ?_
    refine WL.nil ?_
    refine WC.ret ?_
    repeat (first | (with_reducible refine peelT ?_) | (with_reducible refine peelB ?_) | (with_reducible refine peelTX ?_) | (with_reducible refine peelBX ?_) | (with_reducible refine peelBN ?_) | (with_reducible refine peelBO rfl ?_))
    have hkl : k = p.rl.length := by
      have : ¬ k < p.rl.length := by simpa using g14
      omega
    subst hkl
    rw [fir_no hs]
    exact ret1 (.inr rfl) Try.results38 rfl fun w' h => ⟨(), trivial, rfl, h.sub (by repeat (first | exact TakeL.nil | (apply TakeL.cons; · repeat (first | exact Take1.head | apply Take1.tail))))⟩
end Go.Proofs.Ytnlibngncicobaa

namespace Go.Proofs.Ytnlibngncicobaa
open Go Go.RowKit
theorem ru_at {L : List Ru} (hG : UOk L) {j : Nat} {x : Ru} (h : L[j]? = some x) {k : Nat} (hk : k < 5) : (vcs ruV L)[j * 5 + k]? = x.cells[k]? := by
  have h1 := vtR.at hG h
  have := congrArg (fun l => l[k]?) h1
  simp only [List.getElem?_take, List.getElem?_drop, hk, if_true] at this
  rw [this]
  rfl
set_option maxRecDepth 100000 in
theorem rask_any (b : Nat) (ao : Option Addr) (ca : Nat) (p : Po) (a now : Int) (ha : 0 ≤ a) (hn : 0 ≤ now ∧ now < 18446744073709551616) (hp : p.ok) (w : World) (hw : OK w (fpL (polS b ao ca p)) (polS b ao ca p) w) :
    Fn Try.prog 26 [.pointer (some ⟨b, 0, none⟩), .int .u8 a, .int .u64 now] (polS b ao ca p) w (fun _ : Unit => True) (fun _ => .tuple #[.int .u8 (askU p a now).1, .int .i64 (askU p a now).2]) (fun _ => polS b ao ca p) := by
  obtain ⟨j, rfl⟩ : ∃ j : Nat, a = (j : Int) := ⟨a.toNat, by omega⟩
  have hsz := hp.sz
  have hro := UOk.of hp
  have hln := hp.len
  have hlar : j < 8 → 0 ≤ p.la.getD j 0 ∧ p.la.getD j 0 < 18446744073709551616 := fun h => hp.lar _ (List.mem_of_getElem? (getD_of (show j < p.la.length by rw [hsz.la]; exact h)))
  obtain ⟨_, _, he, hcl, hml⟩ := (hw.get (r := rdR (.slice ao p.rl.length ca) 5 p.rl.length (vcs ruV p.rl)) (.tail .head) : Rd _ _ _ _ _).form
  cases he
  refine enterF Try.func26 rfl Try.ntmps26 rfl hw ?_
  refine WC.seq ?_
  refine WC.region ?_
  refine WL.y (Yl.assign rfl) rfl ?_
  refine WL.y (Yl.assign rfl) rfl ?_
  refine WL.nil ?_
  refine WC.seq ?_
  refine WC.region ?_
  refine WL.y (Yl.move rfl) rfl ?_
  refine WL.y (Yl.move rfl) rfl ?_
  refine WL.y (Yl.move rfl) rfl ?_
  refine WL.callC (xs := [.tmp 9, .tmp 10, .tmp 11]) (cap := []) rfl rfl en38 (by repeat (first | exact TakeL.nil | (apply TakeL.cons; · repeat (first | exact Take1.head | apply Take1.tail)))) (fun w hw => rdec_any b ao ca p (j : Int) now hn hro hln w hw.left.here) rfl ?_
  rintro ⟨⟩ -
  dsimp only [polS, List.cons_append, List.nil_append]
  refine WL.y (Yl.assign rfl) rfl ?_
  refine WL.nil ?_
  refine WC.seq ?_
  refine WC.seq ?_
  refine WC.region ?_
  refine WL.y (Yl.move rfl) rfl ?_
  refine WL.y (Yl.lss rfl rfl) rfl ?_
  refine WL.nil ?_
  refine WC.condD rfl (fun g14 => ?_) (fun g14 => ?_)
  · refine WC.seq ?_
    refine WC.region ?_
    refine WL.y (Yl.move rfl) rfl ?_
    refine WL.y (Yl.nilCheck rfl) rfl ?_
    refine WL.y (Yl.field fo42_0 rfl) rfl ?_
    refine WL.y (Yl.load on5 rfl (by repeat (first | exact Take1.head | apply Take1.tail)) (by rfl)) rfl ?_
    refine WL.y (Yl.move rfl) rfl ?_
    refine WL.y (Yl.assign rfl) rfl ?_
    refine WL.y (Yl.assign rfl) rfl ?_
    refine WL.nil ?_
    refine WC.ret ?_
    repeat (first | (with_reducible refine peelT ?_) | (with_reducible refine peelB ?_) | (with_reducible refine peelTX ?_) | (with_reducible refine peelBX ?_) | (with_reducible refine peelBN ?_) | (with_reducible refine peelBO rfl ?_))
    have hf := atI_none (o := firU p.rl (j : Int) now) (by
      cases h : firU p.rl (j : Int) now with
      | none => rfl
      | some i => rw [h] at g14; have g14 : (i : Int) < 0 := g14; omega)
    have hask : askU p (j : Int) now = (p.df, -1) := by unfold askU; rw [hf]
    rw [hask, hf]
    exact ret2 (.inr rfl) Try.results26 rfl rfl fun w' h => ⟨(), trivial, rfl, h.sub (by repeat (first | exact TakeL.nil | (apply TakeL.cons; · repeat (first | exact Take1.head | apply Take1.tail))))⟩
  · refine WC.skip ?_
    refine WC.seq ?_
    refine WC.seq ?_
    obtain ⟨i, hf⟩ := atI_some (o := firU p.rl (j : Int) now) (by intro h; rw [h] at g14; omega)
    have hil := fir_lt hf
    obtain ⟨x, hx0⟩ : ∃ x, p.rl[i]? = some x := ⟨_, List.getElem?_eq_getElem hil⟩
    have hxd : p.rl.getD i Ru.zero = x := by simp [List.getD, hx0]
    have hask : askU p (j : Int) now = ((if agU p x (j : Int) now then 1 else x.dO), (i : Int)) := by unfold askU; rw [hf]; dsimp only; rw [hxd]
    rw [hf]
    dsimp only [atI]
    rw [hask]
    refine WC.region ?_
    refine WL.y (Yl.move rfl) rfl ?_
    refine WL.y (Yl.nilCheck rfl) rfl ?_
    refine WL.y (Yl.field fo42_1 rfl) rfl ?_
    refine WL.y (Yl.load on38 rfl (by repeat (first | exact Take1.head | apply Take1.tail)) (by rfl)) rfl ?_
    refine WL.y (Yl.move rfl) rfl ?_
    refine WL.y (Yl.index un38 sz27 rfl rfl (Reads.of (r := rdR (.slice ao p.rl.length ca) 5 p.rl.length (vcs ruV p.rl)) RdOf.rd' (by repeat (first | exact Take1.head | apply Take1.tail))) rfl (by omega)) rfl ?_
    refine WL.y (Yl.fieldV (v := .slice ao p.rl.length ca) (k := i * 5) fo27_4 rfl (Reads.of (r := rdR (.slice ao p.rl.length ca) 5 p.rl.length (vcs ruV p.rl)) RdOf.rd' (by repeat (first | exact Take1.head | apply Take1.tail))) (by rw [ru_len hro]; omega)) rfl ?_
    refine WL.y (Yl.loadO (v := .slice ao p.rl.length ca) (k := i * 5 + 4) on4 rfl (Reads.of (r := rdR (.slice ao p.rl.length ca) 5 p.rl.length (vcs ruV p.rl)) RdOf.rd' (by repeat (first | exact Take1.head | apply Take1.tail))) (ru_at hro hx0 (by omega))) rfl ?_
    refine WL.y (Yl.move rfl) rfl ?_
    refine WL.both (t := 28) rfl (fun g28 => ?_) (fun g28 => ?_)
    · refine WL.on rfl rfl ?_
      refine WL.y (Yl.move rfl) rfl ?_
      refine WL.on rfl rfl ?_
      refine WL.y (Yl.lss rfl rfl) rfl ?_
      refine WL.y (Yl.pickT rfl rfl) rfl ?_
      refine WL.y (Yl.move rfl) rfl ?_
      refine WL.both (t := 32) rfl (fun g32 => ?_) (fun g32 => ?_)
      · refine WL.on rfl rfl ?_
        refine WL.y (Yl.move rfl) rfl ?_
        refine WL.on rfl rfl ?_
        refine WL.y (Yl.move rfl) rfl ?_
        refine WL.on rfl rfl ?_
        refine WL.y (Yl.nilCheck rfl) rfl ?_
        refine WL.on rfl rfl ?_
        refine WL.y (Yl.field fo42_2 rfl) rfl ?_
        refine WL.on rfl rfl ?_
        have hj8 : j < 8 := by have := g32; simp at this; omega
        refine WL.y (Yl.indexA un39 sz4 rfl rfl rfl (by omega)) rfl ?_
        refine WL.on rfl rfl ?_
        refine WL.y (Yl.load on4 rfl (by repeat (first | exact Take1.head | apply Take1.tail)) (Po.ratN hsz _ hj8)) rfl ?_
        refine WL.y (Yl.pickT rfl rfl) rfl ?_
        refine WL.y (Yl.move rfl) rfl ?_
        refine WL.both (t := 40) rfl (fun g40 => ?_) (fun g40 => ?_)
        · refine WL.on rfl rfl ?_
          refine WL.y (Yl.move rfl) rfl ?_
          refine WL.on rfl rfl ?_
          refine WL.y (Yl.move rfl) rfl ?_
          refine WL.on rfl rfl ?_
          refine WL.y (Yl.move rfl) rfl ?_
          refine WL.on rfl rfl ?_
          refine WL.y (Yl.nilCheck rfl) rfl ?_
          refine WL.on rfl rfl ?_
          refine WL.y (Yl.field fo42_3 rfl) rfl ?_
          refine WL.on rfl rfl ?_
          refine WL.y (Yl.indexA un40 sz25 rfl rfl rfl (by omega)) rfl ?_
          refine WL.on rfl rfl ?_
          refine WL.y (Yl.load on25 rfl (by repeat (first | exact Take1.head | apply Take1.tail)) (Po.ratL hsz _ hj8)) rfl ?_
          refine WL.on rfl rfl ?_
          refine WL.y (Yl.geq rfl rfl) rfl ?_
          refine WL.y (Yl.pickT rfl rfl) rfl ?_
          refine WL.y (Yl.move rfl) rfl ?_
          refine WL.both (t := 50) rfl (fun g50 => ?_) (fun g50 => ?_)
          · refine WL.on rfl rfl ?_
            refine WL.y (Yl.move rfl) rfl ?_
            refine WL.on rfl rfl ?_
            refine WL.y (Yl.move rfl) rfl ?_
            refine WL.on rfl rfl ?_
            refine WL.y (Yl.move rfl) rfl ?_
            refine WL.on rfl rfl ?_
            refine WL.y (Yl.nilCheck rfl) rfl ?_
            refine WL.on rfl rfl ?_
            refine WL.y (Yl.field fo42_3 rfl) rfl ?_
            refine WL.on rfl rfl ?_
            refine WL.y (Yl.indexA un40 sz25 rfl rfl rfl (by omega)) rfl ?_
            refine WL.on rfl rfl ?_
            refine WL.y (Yl.load on25 rfl (by repeat (first | exact Take1.head | apply Take1.tail)) (Po.ratL hsz _ hj8)) rfl ?_
            refine WL.on rfl rfl ?_
            have hle : p.la.getD j 0 ≤ now := by have := g50; simp at this; simpa using this
            have hlar := hlar hj8
            refine WL.y (Yl.sub rfl rfl (u64_in _ (by omega))) rfl ?_
            refine WL.on rfl rfl ?_
            refine WL.y (Yl.leq rfl rfl) rfl ?_
            refine WL.y (Yl.pickT rfl rfl) rfl ?_
            refine WL.nil ?_
            refine WC.condD rfl (fun g60 => ?_) (fun g60 => ?_)
            · refine WC.seq ?_
              refine WC.region ?_
              refine WL.y (Yl.move rfl) rfl ?_
              refine WL.y (Yl.assign rfl) rfl ?_
              refine WL.y (Yl.assign rfl) rfl ?_
              refine WL.nil ?_
              refine WC.ret ?_
              repeat (first | (with_reducible refine peelT ?_) | (with_reducible refine peelB ?_) | (with_reducible refine peelTX ?_) | (with_reducible refine peelBX ?_) | (with_reducible refine peelBN ?_) | (with_reducible refine peelBO rfl ?_))
              first
              | (have e : agU p x (j : Int) now = true := by unfold agU; simp_all <;> (intros; omega)
                 rw [e]
                 exact ret2 (.inr rfl) Try.results26 rfl rfl fun w' h => ⟨(), trivial, rfl, h.sub (by repeat (first | exact TakeL.nil | (apply TakeL.cons; · repeat (first | exact Take1.head | apply Take1.tail))))⟩)
              | (have e : agU p x (j : Int) now = false := by unfold agU; simp_all <;> (intros; omega)
                 rw [e]
                 exact ret2 (.inr rfl) Try.results26 rfl rfl fun w' h => ⟨(), trivial, rfl, h.sub (by repeat (first | exact TakeL.nil | (apply TakeL.cons; · repeat (first | exact Take1.head | apply Take1.tail))))⟩)
            · refine WC.skip ?_
              refine WC.seq ?_
              refine WC.region ?_
              refine WL.y (Yl.move rfl) rfl ?_
              refine WL.y (Yl.nilCheck rfl) rfl ?_
              refine WL.y (Yl.field fo42_1 rfl) rfl ?_
              refine WL.y (Yl.load on38 rfl (by repeat (first | exact Take1.head | apply Take1.tail)) (by rfl)) rfl ?_
              refine WL.y (Yl.move rfl) rfl ?_
              refine WL.y (Yl.index un38 sz27 rfl rfl (Reads.of (r := rdR (.slice ao p.rl.length ca) 5 p.rl.length (vcs ruV p.rl)) RdOf.rd' (by repeat (first | exact Take1.head | apply Take1.tail))) rfl (by omega)) rfl ?_
              refine WL.y (Yl.fieldV (v := .slice ao p.rl.length ca) (k := i * 5) fo27_3 rfl (Reads.of (r := rdR (.slice ao p.rl.length ca) 5 p.rl.length (vcs ruV p.rl)) RdOf.rd' (by repeat (first | exact Take1.head | apply Take1.tail))) (by rw [ru_len hro]; omega)) rfl ?_
              refine WL.y (Yl.loadO (v := .slice ao p.rl.length ca) (k := i * 5 + 3) on5 rfl (Reads.of (r := rdR (.slice ao p.rl.length ca) 5 p.rl.length (vcs ruV p.rl)) RdOf.rd' (by repeat (first | exact Take1.head | apply Take1.tail))) (ru_at hro hx0 (by omega))) rfl ?_
              refine WL.y (Yl.move rfl) rfl ?_
              refine WL.y (Yl.assign rfl) rfl ?_
              refine WL.y (Yl.assign rfl) rfl ?_
              refine WL.nil ?_
              refine WC.ret ?_
              repeat (first | (with_reducible refine peelT ?_) | (with_reducible refine peelB ?_) | (with_reducible refine peelTX ?_) | (with_reducible refine peelBX ?_) | (with_reducible refine peelBN ?_) | (with_reducible refine peelBO rfl ?_))
              first
              | (have e : agU p x (j : Int) now = true := by unfold agU; simp_all <;> (intros; omega)
                 rw [e]
                 exact ret2 (.inr rfl) Try.results26 rfl rfl fun w' h => ⟨(), trivial, rfl, h.sub (by repeat (first | exact TakeL.nil | (apply TakeL.cons; · repeat (first | exact Take1.head | apply Take1.tail))))⟩)
              | (have e : agU p x (j : Int) now = false := by unfold agU; simp_all <;> (intros; omega)
                 rw [e]
                 exact ret2 (.inr rfl) Try.results26 rfl rfl fun w' h => ⟨(), trivial, rfl, h.sub (by repeat (first | exact TakeL.nil | (apply TakeL.cons; · repeat (first | exact Take1.head | apply Take1.tail))))⟩)
          · refine WL.off rfl rfl rfl rfl ?_
            refine WL.off rfl rfl rfl rfl ?_
            refine WL.off rfl rfl rfl rfl ?_
            refine WL.off rfl rfl rfl rfl ?_
            refine WL.off rfl rfl rfl rfl ?_
            refine WL.off rfl rfl rfl rfl ?_
            refine WL.off rfl rfl rfl rfl ?_
            refine WL.off rfl rfl rfl rfl ?_
            refine WL.off rfl rfl rfl rfl ?_
            refine WL.y (Yl.pickF rfl rfl) rfl ?_
            refine WL.nil ?_
            refine WC.condF rfl (by first | rfl | (simp; done) | (simp; omega)) ?_
            refine WC.skip ?_
            refine WC.seq ?_
            refine WC.region ?_
            refine WL.y (Yl.move rfl) rfl ?_
            refine WL.y (Yl.nilCheck rfl) rfl ?_
            refine WL.y (Yl.field fo42_1 rfl) rfl ?_
            refine WL.y (Yl.load on38 rfl (by repeat (first | exact Take1.head | apply Take1.tail)) (by rfl)) rfl ?_
            refine WL.y (Yl.move rfl) rfl ?_
            refine WL.y (Yl.index un38 sz27 rfl rfl (Reads.of (r := rdR (.slice ao p.rl.length ca) 5 p.rl.length (vcs ruV p.rl)) RdOf.rd' (by repeat (first | exact Take1.head | apply Take1.tail))) rfl (by omega)) rfl ?_
            refine WL.y (Yl.fieldV (v := .slice ao p.rl.length ca) (k := i * 5) fo27_3 rfl (Reads.of (r := rdR (.slice ao p.rl.length ca) 5 p.rl.length (vcs ruV p.rl)) RdOf.rd' (by repeat (first | exact Take1.head | apply Take1.tail))) (by rw [ru_len hro]; omega)) rfl ?_
            refine WL.y (Yl.loadO (v := .slice ao p.rl.length ca) (k := i * 5 + 3) on5 rfl (Reads.of (r := rdR (.slice ao p.rl.length ca) 5 p.rl.length (vcs ruV p.rl)) RdOf.rd' (by repeat (first | exact Take1.head | apply Take1.tail))) (ru_at hro hx0 (by omega))) rfl ?_
            refine WL.y (Yl.move rfl) rfl ?_
            refine WL.y (Yl.assign rfl) rfl ?_
            refine WL.y (Yl.assign rfl) rfl ?_
            refine WL.nil ?_
            refine WC.ret ?_
            repeat (first | (with_reducible refine peelT ?_) | (with_reducible refine peelB ?_) | (with_reducible refine peelTX ?_) | (with_reducible refine peelBX ?_) | (with_reducible refine peelBN ?_) | (with_reducible refine peelBO rfl ?_))
            first
            | (have e : agU p x (j : Int) now = true := by unfold agU; simp_all <;> (intros; omega)
               rw [e]
               exact ret2 (.inr rfl) Try.results26 rfl rfl fun w' h => ⟨(), trivial, rfl, h.sub (by repeat (first | exact TakeL.nil | (apply TakeL.cons; · repeat (first | exact Take1.head | apply Take1.tail))))⟩)
            | (have e : agU p x (j : Int) now = false := by unfold agU; simp_all <;> (intros; omega)
               rw [e]
               exact ret2 (.inr rfl) Try.results26 rfl rfl fun w' h => ⟨(), trivial, rfl, h.sub (by repeat (first | exact TakeL.nil | (apply TakeL.cons; · repeat (first | exact Take1.head | apply Take1.tail))))⟩)
        · refine WL.off rfl rfl rfl rfl ?_
          refine WL.off rfl rfl rfl rfl ?_
          refine WL.off rfl rfl rfl rfl ?_
          refine WL.off rfl rfl rfl rfl ?_
          refine WL.off rfl rfl rfl rfl ?_
          refine WL.off rfl rfl rfl rfl ?_
          refine WL.off rfl rfl rfl rfl ?_
          refine WL.off rfl rfl rfl rfl ?_
          refine WL.y (Yl.pickF rfl rfl) rfl ?_
          refine WL.y (Yl.move rfl) rfl ?_
          refine WL.off rfl rfl rfl rfl ?_
          refine WL.off rfl rfl rfl rfl ?_
          refine WL.off rfl rfl rfl rfl ?_
          refine WL.off rfl rfl rfl rfl ?_
          refine WL.off rfl rfl rfl rfl ?_
          refine WL.off rfl rfl rfl rfl ?_
          refine WL.off rfl rfl rfl rfl ?_
          refine WL.off rfl rfl rfl rfl ?_
          refine WL.off rfl rfl rfl rfl ?_
          refine WL.y (Yl.pickF rfl rfl) rfl ?_
          refine WL.nil ?_
          refine WC.condF rfl (by first | rfl | (simp; done) | (simp; omega)) ?_
          refine WC.skip ?_
          refine WC.seq ?_
          refine WC.region ?_
          refine WL.y (Yl.move rfl) rfl ?_
          refine WL.y (Yl.nilCheck rfl) rfl ?_
          refine WL.y (Yl.field fo42_1 rfl) rfl ?_
          refine WL.y (Yl.load on38 rfl (by repeat (first | exact Take1.head | apply Take1.tail)) (by rfl)) rfl ?_
          refine WL.y (Yl.move rfl) rfl ?_
          refine WL.y (Yl.index un38 sz27 rfl rfl (Reads.of (r := rdR (.slice ao p.rl.length ca) 5 p.rl.length (vcs ruV p.rl)) RdOf.rd' (by repeat (first | exact Take1.head | apply Take1.tail))) rfl (by omega)) rfl ?_
          refine WL.y (Yl.fieldV (v := .slice ao p.rl.length ca) (k := i * 5) fo27_3 rfl (Reads.of (r := rdR (.slice ao p.rl.length ca) 5 p.rl.length (vcs ruV p.rl)) RdOf.rd' (by repeat (first | exact Take1.head | apply Take1.tail))) (by rw [ru_len hro]; omega)) rfl ?_
          refine WL.y (Yl.loadO (v := .slice ao p.rl.length ca) (k := i * 5 + 3) on5 rfl (Reads.of (r := rdR (.slice ao p.rl.length ca) 5 p.rl.length (vcs ruV p.rl)) RdOf.rd' (by repeat (first | exact Take1.head | apply Take1.tail))) (ru_at hro hx0 (by omega))) rfl ?_
          refine WL.y (Yl.move rfl) rfl ?_
          refine WL.y (Yl.assign rfl) rfl ?_
          refine WL.y (Yl.assign rfl) rfl ?_
          refine WL.nil ?_
          refine WC.ret ?_
          repeat (first | (with_reducible refine peelT ?_) | (with_reducible refine peelB ?_) | (with_reducible refine peelTX ?_) | (with_reducible refine peelBX ?_) | (with_reducible refine peelBN ?_) | (with_reducible refine peelBO rfl ?_))
          first
          | (have e : agU p x (j : Int) now = true := by unfold agU; simp_all <;> (intros; omega)
             rw [e]
             exact ret2 (.inr rfl) Try.results26 rfl rfl fun w' h => ⟨(), trivial, rfl, h.sub (by repeat (first | exact TakeL.nil | (apply TakeL.cons; · repeat (first | exact Take1.head | apply Take1.tail))))⟩)
          | (have e : agU p x (j : Int) now = false := by unfold agU; simp_all <;> (intros; omega)
             rw [e]
             exact ret2 (.inr rfl) Try.results26 rfl rfl fun w' h => ⟨(), trivial, rfl, h.sub (by repeat (first | exact TakeL.nil | (apply TakeL.cons; · repeat (first | exact Take1.head | apply Take1.tail))))⟩)
      · refine WL.off rfl rfl rfl rfl ?_
        refine WL.off rfl rfl rfl rfl ?_
        refine WL.off rfl rfl rfl rfl ?_
        refine WL.off rfl rfl rfl rfl ?_
        refine WL.off rfl rfl rfl rfl ?_
        refine WL.off rfl rfl rfl rfl ?_
        refine WL.y (Yl.pickF rfl rfl) rfl ?_
        refine WL.y (Yl.move rfl) rfl ?_
        refine WL.off rfl rfl rfl rfl ?_
        refine WL.off rfl rfl rfl rfl ?_
        refine WL.off rfl rfl rfl rfl ?_
        refine WL.off rfl rfl rfl rfl ?_
        refine WL.off rfl rfl rfl rfl ?_
        refine WL.off rfl rfl rfl rfl ?_
        refine WL.off rfl rfl rfl rfl ?_
        refine WL.off rfl rfl rfl rfl ?_
        refine WL.y (Yl.pickF rfl rfl) rfl ?_
        refine WL.y (Yl.move rfl) rfl ?_
        refine WL.off rfl rfl rfl rfl ?_
        refine WL.off rfl rfl rfl rfl ?_
        refine WL.off rfl rfl rfl rfl ?_
        refine WL.off rfl rfl rfl rfl ?_
        refine WL.off rfl rfl rfl rfl ?_
        refine WL.off rfl rfl rfl rfl ?_
        refine WL.off rfl rfl rfl rfl ?_
        refine WL.off rfl rfl rfl rfl ?_
        refine WL.off rfl rfl rfl rfl ?_
        refine WL.y (Yl.pickF rfl rfl) rfl ?_
        refine WL.nil ?_
        refine WC.condF rfl (by first | rfl | (simp; done) | (simp; omega)) ?_
        refine WC.skip ?_
        refine WC.seq ?_
        refine WC.region ?_
        refine WL.y (Yl.move rfl) rfl ?_
        refine WL.y (Yl.nilCheck rfl) rfl ?_
        refine WL.y (Yl.field fo42_1 rfl) rfl ?_
        refine WL.y (Yl.load on38 rfl (by repeat (first | exact Take1.head | apply Take1.tail)) (by rfl)) rfl ?_
        refine WL.y (Yl.move rfl) rfl ?_
        refine WL.y (Yl.index un38 sz27 rfl rfl (Reads.of (r := rdR (.slice ao p.rl.length ca) 5 p.rl.length (vcs ruV p.rl)) RdOf.rd' (by repeat (first | exact Take1.head | apply Take1.tail))) rfl (by omega)) rfl ?_
        refine WL.y (Yl.fieldV (v := .slice ao p.rl.length ca) (k := i * 5) fo27_3 rfl (Reads.of (r := rdR (.slice ao p.rl.length ca) 5 p.rl.length (vcs ruV p.rl)) RdOf.rd' (by repeat (first | exact Take1.head | apply Take1.tail))) (by rw [ru_len hro]; omega)) rfl ?_
        refine WL.y (Yl.loadO (v := .slice ao p.rl.length ca) (k := i * 5 + 3) on5 rfl (Reads.of (r := rdR (.slice ao p.rl.length ca) 5 p.rl.length (vcs ruV p.rl)) RdOf.rd' (by repeat (first | exact Take1.head | apply Take1.tail))) (ru_at hro hx0 (by omega))) rfl ?_
        refine WL.y (Yl.move rfl) rfl ?_
        refine WL.y (Yl.assign rfl) rfl ?_
        refine WL.y (Yl.assign rfl) rfl ?_
        refine WL.nil ?_
        refine WC.ret ?_
        repeat (first | (with_reducible refine peelT ?_) | (with_reducible refine peelB ?_) | (with_reducible refine peelTX ?_) | (with_reducible refine peelBX ?_) | (with_reducible refine peelBN ?_) | (with_reducible refine peelBO rfl ?_))
        first
        | (have e : agU p x (j : Int) now = true := by unfold agU; simp_all <;> (intros; omega)
           rw [e]
           exact ret2 (.inr rfl) Try.results26 rfl rfl fun w' h => ⟨(), trivial, rfl, h.sub (by repeat (first | exact TakeL.nil | (apply TakeL.cons; · repeat (first | exact Take1.head | apply Take1.tail))))⟩)
        | (have e : agU p x (j : Int) now = false := by unfold agU; simp_all <;> (intros; omega)
           rw [e]
           exact ret2 (.inr rfl) Try.results26 rfl rfl fun w' h => ⟨(), trivial, rfl, h.sub (by repeat (first | exact TakeL.nil | (apply TakeL.cons; · repeat (first | exact Take1.head | apply Take1.tail))))⟩)
    · refine WL.off rfl rfl rfl rfl ?_
      refine WL.off rfl rfl rfl rfl ?_
      refine WL.y (Yl.pickF rfl rfl) rfl ?_
      refine WL.y (Yl.move rfl) rfl ?_
      refine WL.off rfl rfl rfl rfl ?_
      refine WL.off rfl rfl rfl rfl ?_
      refine WL.off rfl rfl rfl rfl ?_
      refine WL.off rfl rfl rfl rfl ?_
      refine WL.off rfl rfl rfl rfl ?_
      refine WL.off rfl rfl rfl rfl ?_
      refine WL.y (Yl.pickF rfl rfl) rfl ?_
      refine WL.y (Yl.move rfl) rfl ?_
      refine WL.off rfl rfl rfl rfl ?_
      refine WL.off rfl rfl rfl rfl ?_
      refine WL.off rfl rfl rfl rfl ?_
      refine WL.off rfl rfl rfl rfl ?_
      refine WL.off rfl rfl rfl rfl ?_
      refine WL.off rfl rfl rfl rfl ?_
      refine WL.off rfl rfl rfl rfl ?_
      refine WL.off rfl rfl rfl rfl ?_
      refine WL.y (Yl.pickF rfl rfl) rfl ?_
      refine WL.y (Yl.move rfl) rfl ?_
      refine WL.off rfl rfl rfl rfl ?_
      refine WL.off rfl rfl rfl rfl ?_
      refine WL.off rfl rfl rfl rfl ?_
      refine WL.off rfl rfl rfl rfl ?_
      refine WL.off rfl rfl rfl rfl ?_
      refine WL.off rfl rfl rfl rfl ?_
      refine WL.off rfl rfl rfl rfl ?_
      refine WL.off rfl rfl rfl rfl ?_
      refine WL.off rfl rfl rfl rfl ?_
      refine WL.y (Yl.pickF rfl rfl) rfl ?_
      refine WL.nil ?_
      refine WC.condF rfl (by first | rfl | (simp; done) | (simp; omega)) ?_
      refine WC.skip ?_
      refine WC.seq ?_
      refine WC.region ?_
      refine WL.y (Yl.move rfl) rfl ?_
      refine WL.y (Yl.nilCheck rfl) rfl ?_
      refine WL.y (Yl.field fo42_1 rfl) rfl ?_
      refine WL.y (Yl.load on38 rfl (by repeat (first | exact Take1.head | apply Take1.tail)) (by rfl)) rfl ?_
      refine WL.y (Yl.move rfl) rfl ?_
      refine WL.y (Yl.index un38 sz27 rfl rfl (Reads.of (r := rdR (.slice ao p.rl.length ca) 5 p.rl.length (vcs ruV p.rl)) RdOf.rd' (by repeat (first | exact Take1.head | apply Take1.tail))) rfl (by omega)) rfl ?_
      refine WL.y (Yl.fieldV (v := .slice ao p.rl.length ca) (k := i * 5) fo27_3 rfl (Reads.of (r := rdR (.slice ao p.rl.length ca) 5 p.rl.length (vcs ruV p.rl)) RdOf.rd' (by repeat (first | exact Take1.head | apply Take1.tail))) (by rw [ru_len hro]; omega)) rfl ?_
      refine WL.y (Yl.loadO (v := .slice ao p.rl.length ca) (k := i * 5 + 3) on5 rfl (Reads.of (r := rdR (.slice ao p.rl.length ca) 5 p.rl.length (vcs ruV p.rl)) RdOf.rd' (by repeat (first | exact Take1.head | apply Take1.tail))) (ru_at hro hx0 (by omega))) rfl ?_
      refine WL.y (Yl.move rfl) rfl ?_
      refine WL.y (Yl.assign rfl) rfl ?_
      refine WL.y (Yl.assign rfl) rfl ?_
      refine WL.nil ?_
      refine WC.ret ?_
      repeat (first | (with_reducible refine peelT ?_) | (with_reducible refine peelB ?_) | (with_reducible refine peelTX ?_) | (with_reducible refine peelBX ?_) | (with_reducible refine peelBN ?_) | (with_reducible refine peelBO rfl ?_))
      first
      | (have e : agU p x (j : Int) now = true := by unfold agU; simp_all <;> (intros; omega)
         rw [e]
         exact ret2 (.inr rfl) Try.results26 rfl rfl fun w' h => ⟨(), trivial, rfl, h.sub (by repeat (first | exact TakeL.nil | (apply TakeL.cons; · repeat (first | exact Take1.head | apply Take1.tail))))⟩)
      | (have e : agU p x (j : Int) now = false := by unfold agU; simp_all <;> (intros; omega)
         rw [e]
         exact ret2 (.inr rfl) Try.results26 rfl rfl fun w' h => ⟨(), trivial, rfl, h.sub (by repeat (first | exact TakeL.nil | (apply TakeL.cons; · repeat (first | exact Take1.head | apply Take1.tail))))⟩)
end Go.Proofs.Ytnlibngncicobaa

namespace Go.Proofs.Ytnlibngncicobaa
open Go Go.RowKit
/-- What decides, so far. -/
def fdU (l : List Ru) (t a i : Nat) : Bool := ((List.range t).any fun t' => decAt l (t' : Int) i) || ((List.range a).any fun a' => decide (firU l (a' : Int) (t : Int) = some i))
theorem fd_row (l : List Ru) (t i : Nat) : fdU l t 8 i = fdU l (t + 1) 0 i := by
  unfold fdU
  rw [List.range_succ (n := t), List.any_append]
  show (_ || decAt l (t : Int) i) = ((_ || (decAt l (t : Int) i || false)) || false)
  rw [Bool.or_false, Bool.or_false]
theorem fd_end (l : List Ru) (i : Nat) : fdU l 1440 0 i = decU l i := by unfold fdU decU; simp
theorem fd_next (l : List Ru) (t a i : Nat) : fdU l t (a + 1) i = (fdU l t a i || decide (firU l (a : Int) (t : Int) = some i)) := by
  unfold fdU
  rw [List.range_succ, List.any_append, Bool.or_assoc]
  simp
def bqT (n : Nat) (f : Nat → Bool) : List Value := (List.range n).map fun i => .bool (f i)
theorem bqT_len (n : Nat) (f : Nat → Bool) : (bqT n f).length = n := by simp [bqT]
theorem bqT_at {n : Nat} {f : Nat → Bool} {i : Nat} (h : i < n) : (bqT n f)[i]? = some (.bool (f i)) := by
  unfold bqT
  rw [List.getElem?_map, List.getElem?_range h]
  rfl
theorem bqT_set {n : Nat} {f g : Nat → Bool} {i : Nat} (h : ∀ k, g k = (f k || decide (some i = some k))) : (bqT n f).set i (.bool true) = bqT n g := by
  apply List.ext_getElem?
  intro k
  rw [List.getElem?_set]
  by_cases hk : k < n
  · by_cases e : i = k
    · subst e
      rw [if_pos rfl, bqT_len, if_pos hk, bqT_at hk, h i]
      simp
    · rw [if_neg e, bqT_at hk, bqT_at hk, h k]
      simp [e]
  · have h1 : (bqT n g)[k]? = none := List.getElem?_eq_none (by rw [bqT_len]; omega)
    have h2 : (bqT n f)[k]? = none := List.getElem?_eq_none (by rw [bqT_len]; omega)
    rw [h1, h2, bqT_len]
    by_cases e : i = k
    · subst e
      rw [if_pos rfl, if_neg hk]
    · rw [if_neg e]
theorem fd_hit {l : List Ru} {t a i : Nat} (h : firU l (a : Int) (t : Int) = some i) (k : Nat) : fdU l t (a + 1) k = (fdU l t a k || decide (some i = some k)) := by rw [fd_next, h]
theorem fd_miss {l : List Ru} {t a : Nat} (h : firU l (a : Int) (t : Int) = none) : fdU l t (a + 1) = fdU l t a := by
  funext k
  rw [fd_next, h]
  simp
/-- Those of the first i that decide nothing. -/
def outU (l : List Ru) (i : Nat) : List Nat := (List.range i).filter fun j => !decU l j
theorem outU_len (l : List Ru) (i : Nat) : (outU l i).length ≤ i := by
  have := List.length_filter_le (fun j => !decU l j) (List.range i)
  rw [List.length_range] at this
  exact this
theorem outU_next (l : List Ru) (i : Nat) : outU l (i + 1) = outU l i ++ (if decU l i then [] else [i]) := by
  unfold outU
  rw [List.range_succ, List.filter_append]
  cases h : decU l i <;> simp [h]
set_option maxRecDepth 100000 in
theorem ridle_any (b : Nat) (ao : Option Addr) (ca : Nat) (p : Po) (hro : UOk p.rl) (hln : p.rl.length ≤ 64) (w : World) (hw : OK w (fpL (polS b ao ca p)) (polS b ao ca p) w) :
    Fn Try.prog 19 [.pointer (some ⟨b, 0, none⟩)] (polS b ao ca p) w (fun _ : Option Addr × Nat => True) (fun y => .slice y.1 (idleU p.rl).length y.2) (fun y => ownR (.slice y.1 (idleU p.rl).length y.2) 3 1 (idleU p.rl).length (ints .i64 (natI (idleU p.rl))) :: polS b ao ca p) := by
  unfold polS at hw ⊢
  refine enterF Try.func19 rfl Try.ntmps19 rfl hw ?_
  refine WC.seq ?_
  refine WC.region ?_
  refine WL.y (Yl.assign rfl) rfl ?_
  refine WL.nil ?_
  refine WC.seq ?_
  refine WC.region ?_
  refine WL.y (Yl.move rfl) rfl ?_
  refine WL.y (Yl.nilCheck rfl) rfl ?_
  refine WL.y (Yl.field fo42_1 rfl) rfl ?_
  refine WL.y (Yl.load on38 rfl (by repeat (first | exact Take1.head | apply Take1.tail)) (by rfl)) rfl ?_
  refine WL.y (Yl.len un38 rfl) rfl ?_
  refine WL.to (To.makeSlice un84 zb84_4 rfl rfl rfl (by omega) (by unfold maxLen; omega)) rfl ?_
  intro b14
  rw [show List.replicate p.rl.length (Value.bool false) = bqT p.rl.length (fdU p.rl 0 0) by (apply List.ext_getElem?; intro k; by_cases hk : k < p.rl.length; (rw [bqT_at hk, List.getElem?_replicate, if_pos hk]; rfl); (rw [List.getElem?_eq_none (by simp; omega), List.getElem?_eq_none (by rw [bqT_len]; omega)]))]
  refine WL.view (fun w h => h.blkOwn (b := b14) (size := 1) (n := p.rl.length) (by repeat (first | exact Take1.head | apply Take1.tail)) (by unfold maxLen; omega) (by rw [bqT_len, Nat.mul_one])) ?_
  refine WL.y (Yl.assign rfl) rfl ?_
  refine WL.nil ?_
  refine WC.seq ?_
  refine WC.seq ?_
  refine WC.region ?_
  refine WL.y (Yl.assign rfl) rfl ?_
  refine WL.nil ?_
  refine WC.block ?_
  refine WC.loop (α := Nat) (fun t => [(0, .pointer (some ⟨b, 0, none⟩)), (3, .slice (some ⟨b14, 0, none⟩) p.rl.length p.rl.length), (4, .int .u64 (t : Int))]) (fun t => [blkR b 42 (p.rcells (.slice ao p.rl.length ca)), rdR (.slice ao p.rl.length ca) 5 p.rl.length (vcs ruV p.rl), ownR (.slice (some ⟨b14, 0, none⟩) p.rl.length p.rl.length) 4 1 p.rl.length (bqT p.rl.length (fdU p.rl t 0))]) (fun t => t ≤ 1440) (fun t => 1440 - t) 0 (by omega) ⟨(by repeat (first | exact Sub.nil | refine Sub.cons rfl ?_)), _, (by repeat (first | exact TakeL.nil | (apply TakeL.cons; · repeat (first | exact Take1.head | apply Take1.tail))))⟩ ?_
  intro t ht
  refine WC.seq ?_
  refine WC.seq ?_
  refine WC.region ?_
  refine WL.y (Yl.move rfl) rfl ?_
  refine WL.y (Yl.lss rfl rfl) rfl ?_
  refine WL.nil ?_
  refine WC.condD rfl (fun g16 => ?_) (fun g16 => ?_)
  · refine WC.skip ?_
    refine WC.seq ?_
    refine WC.block ?_
    refine WC.seq ?_
    refine WC.region ?_
    refine WL.y (Yl.assign rfl) rfl ?_
    refine WL.nil ?_
    refine WC.block ?_
    refine WC.loop (α := Nat) (fun a => [(0, .pointer (some ⟨b, 0, none⟩)), (3, .slice (some ⟨b14, 0, none⟩) p.rl.length p.rl.length), (4, .int .u64 (t : Int)), (5, .int .u8 (a : Int))]) (fun a => [blkR b 42 (p.rcells (.slice ao p.rl.length ca)), rdR (.slice ao p.rl.length ca) 5 p.rl.length (vcs ruV p.rl), ownR (.slice (some ⟨b14, 0, none⟩) p.rl.length p.rl.length) 4 1 p.rl.length (bqT p.rl.length (fdU p.rl t a))]) (fun a => a ≤ 8) (fun a => 8 - a) 0 (by omega) ⟨(by repeat (first | exact Sub.nil | refine Sub.cons rfl ?_)), _, (by repeat (first | exact TakeL.nil | (apply TakeL.cons; · repeat (first | exact Take1.head | apply Take1.tail))))⟩ ?_
    intro a ha
    refine WC.seq ?_
    refine WC.seq ?_
    refine WC.region ?_
    refine WL.y (Yl.move rfl) rfl ?_
    refine WL.y (Yl.lss rfl rfl) rfl ?_
    refine WL.nil ?_
    refine WC.condD rfl (fun g20 => ?_) (fun g20 => ?_)
    · refine WC.skip ?_
      refine WC.seq ?_
      refine WC.block ?_
      refine WC.seq ?_
      refine WC.region ?_
      refine WL.y (Yl.move rfl) rfl ?_
      refine WL.y (Yl.move rfl) rfl ?_
      refine WL.y (Yl.move rfl) rfl ?_
      refine WL.callC (xs := [.tmp 23, .tmp 24, .tmp 25]) (cap := []) rfl rfl en38 (by repeat (first | exact TakeL.nil | (apply TakeL.cons; · repeat (first | exact Take1.head | apply Take1.tail)))) (fun w hw => rdec_any b ao ca p (a : Int) (t : Int) ⟨by omega, by omega⟩ hro hln w hw.left.here) rfl ?_
      rintro ⟨⟩ -
      dsimp only [polS, List.cons_append, List.nil_append]
      refine WL.y (Yl.assign rfl) rfl ?_
      refine WL.nil ?_
      refine WC.seq ?_
      refine WC.region ?_
      refine WL.y (Yl.move rfl) rfl ?_
      refine WL.y (Yl.geq rfl rfl) rfl ?_
      refine WL.nil ?_
      refine WC.condD rfl (fun g28 => ?_) (fun g28 => ?_)
      · obtain ⟨i, hf⟩ := atI_some (o := firU p.rl (a : Int) (t : Int)) (by intro h; rw [h] at g28; omega)
        have hil := fir_lt hf
        rw [hf]
        dsimp only [atI]
        refine WC.region ?_
        refine WL.y (Yl.move rfl) rfl ?_
        refine WL.y (Yl.move rfl) rfl ?_
        refine WL.y (Yl.index un84 sz4 rfl rfl (Reads.of (r := ownR (.slice (some ⟨b14, 0, none⟩) p.rl.length p.rl.length) 4 1 p.rl.length (bqT p.rl.length (fdU p.rl t a))) RdOf.own (by repeat (first | exact Take1.head | apply Take1.tail))) rfl (by omega)) rfl ?_
        refine WL.sto (Sto.elem (v := .slice (some ⟨b14, 0, none⟩) p.rl.length p.rl.length) (j := i) (cs' := bqT p.rl.length (fdU p.rl t (a + 1))) sz4 rfl rfl (by repeat (first | exact Take1.head | apply Take1.tail)) rfl hil (bqT_set (fd_hit hf))) (fun _ h => nomatch h) ?_
        refine WL.nil ?_
        refine WC.region ?_
        refine WL.y (Yl.move rfl) rfl ?_
        refine WL.y (Yl.add rfl rfl (IntWalk.u8_in _ (by omega))) rfl ?_
        refine WL.y (Yl.assign rfl) rfl ?_
        refine WL.nil ?_
        exact ⟨rfl, a + 1, by omega, by omega, (by repeat (first | exact Sub.nil | refine Sub.cons rfl ?_)), _, (by repeat (first | exact TakeL.nil | (apply TakeL.cons; · repeat (first | exact Take1.head | apply Take1.tail))))⟩
      · refine WC.skip ?_
        refine WC.region ?_
        refine WL.y (Yl.move rfl) rfl ?_
        refine WL.y (Yl.add rfl rfl (IntWalk.u8_in _ (by omega))) rfl ?_
        refine WL.y (Yl.assign rfl) rfl ?_
        refine WL.nil ?_
        have hf : firU p.rl (a : Int) (t : Int) = none := atI_none (by
          cases h : firU p.rl (a : Int) (t : Int) with
          | none => rfl
          | some i => exact absurd (show (0 : Int) ≤ atI (some i) from Int.natCast_nonneg i) (by rw [h] at g28; omega))
        exact ⟨rfl, a + 1, by omega, by omega, (by repeat (first | exact Sub.nil | refine Sub.cons rfl ?_)), _, by rw [fd_miss hf]; exact (by repeat (first | exact TakeL.nil | (apply TakeL.cons; · repeat (first | exact Take1.head | apply Take1.tail))))⟩
    · refine WC.exit ?_
      refine WC.region ?_
      refine WL.y (Yl.move rfl) rfl ?_
      refine WL.y (Yl.add rfl rfl (u64_in _ (by omega))) rfl ?_
      refine WL.y (Yl.assign rfl) rfl ?_
      refine WL.nil ?_
      have e8 : a = 8 := by omega
      subst e8
      exact ⟨rfl, t + 1, by omega, by omega, (by repeat (first | exact Sub.nil | refine Sub.cons rfl ?_)), _, by rw [show fdU p.rl (t + 1) 0 = fdU p.rl t 8 from funext fun i => (fd_row p.rl t i).symm]; exact (by repeat (first | exact TakeL.nil | (apply TakeL.cons; · repeat (first | exact Take1.head | apply Take1.tail))))⟩
  · refine WC.exit ?_
    refine WC.seq ?_
    have e40 : t = 1440 := by omega
    subst e40
    rw [show fdU p.rl 1440 0 = decU p.rl from funext fun i => fd_end p.rl i]
    refine WC.region ?_
    refine WL.y (Yl.assign rfl) rfl ?_
    refine WL.nil ?_
    refine WC.seq ?_
    refine WC.seq ?_
    refine WC.region ?_
    refine WL.y (Yl.assign rfl) rfl ?_
    refine WL.nil ?_
    refine WC.block ?_
    refine WC.view (fun w h => h.addNil 3 1) ?_
    refine WC.loop (α := Nat × (Option Addr × Nat)) (fun s => [(3, .slice (some ⟨b14, 0, none⟩) p.rl.length p.rl.length), (7, .slice s.2.1 (outU p.rl s.1).length s.2.2), (8, .int .i64 (s.1 : Int))]) (fun s => [blkR b 42 (p.rcells (.slice ao p.rl.length ca)), rdR (.slice ao p.rl.length ca) 5 p.rl.length (vcs ruV p.rl), ownR (.slice (some ⟨b14, 0, none⟩) p.rl.length p.rl.length) 4 1 p.rl.length (bqT p.rl.length (decU p.rl)), ownR (.slice s.2.1 (outU p.rl s.1).length s.2.2) 3 1 (outU p.rl s.1).length (ints .i64 (natI (outU p.rl s.1)))]) (fun s => s.1 ≤ p.rl.length) (fun s => p.rl.length - s.1) (0, (none, 0)) (Nat.zero_le _) ⟨(by repeat (first | exact Sub.nil | refine Sub.cons rfl ?_)), _, (by repeat (first | exact TakeL.nil | (apply TakeL.cons; · repeat (first | exact Take1.head | apply Take1.tail))))⟩ ?_
    rintro ⟨i, ao4, c4⟩ hi
    dsimp only at hi ⊢
    have hol := outU_len p.rl i
    refine WC.seq ?_
    refine WC.seq ?_
    refine WC.region ?_
    refine WL.y (Yl.move rfl) rfl ?_
    refine WL.y (Yl.move rfl) rfl ?_
    refine WL.y (Yl.len un84 rfl) rfl ?_
    refine WL.y (Yl.lss rfl rfl) rfl ?_
    refine WL.nil ?_
    refine WC.condD rfl (fun g35 => ?_) (fun g35 => ?_)
    · refine WC.skip ?_
      refine WC.seq ?_
      refine WC.block ?_
      refine WC.seq ?_
      refine WC.region ?_
      refine WL.y (Yl.move rfl) rfl ?_
      refine WL.y (Yl.move rfl) rfl ?_
      have hil : i < p.rl.length := by omega
      refine WL.y (Yl.index un84 sz4 rfl rfl (Reads.of (r := ownR (.slice (some ⟨b14, 0, none⟩) p.rl.length p.rl.length) 4 1 p.rl.length (bqT p.rl.length (decU p.rl))) RdOf.own (by repeat (first | exact Take1.head | apply Take1.tail))) rfl (by omega)) rfl ?_
      refine WL.y (Yl.loadE on4 rfl (Reads.of (r := ownR (.slice (some ⟨b14, 0, none⟩) p.rl.length p.rl.length) 4 1 p.rl.length (bqT p.rl.length (decU p.rl))) RdOf.own (by repeat (first | exact Take1.head | apply Take1.tail))) (bqT_at hil)) rfl ?_
      refine WL.y (Yl.not rfl) rfl ?_
      refine WL.nil ?_
      refine WC.cond rfl (fun g42 => ?_) (fun g42 => ?_)
      · have hd : decU p.rl i = false := by simpa using g42
        have hnx : outU p.rl (i + 1) = outU p.rl i ++ [i] := by rw [outU_next, hd]; rfl
        have hol2 := outU_len p.rl (i + 1)
        refine WC.region ?_
        refine WL.y (Yl.move rfl) rfl ?_
        refine WL.y (Yl.move rfl) rfl ?_
        refine WL.to (To.buildSlice (vs := [.int .i64 (i : Int)]) un49 zs3 rfl rfl (by simp [Value.cells]) (by decide) (by decide)) rfl ?_
        intro b45
        refine WL.to (To.append sl49 rfl rfl (by repeat (first | exact Take1.head | apply Take1.tail)) (Reads.of (RdOf.blk (size := 1) (n := 1) (cs := [.int .i64 (i : Int)]) (cs' := ints .i64 (natI [i])) (Nat.le_refl _) (by unfold maxLen; omega) (by simp) rfl) (by repeat (first | exact Take1.head | apply Take1.tail))) (ints_one _ _) (show (outU p.rl i).length + 1 = (outU p.rl (i + 1)).length by rw [hnx, List.length_append]; rfl) (show ints .i64 (natI (outU p.rl i)) ++ ints .i64 (natI [i]) = ints .i64 (natI (outU p.rl (i + 1))) by rw [hnx, natI_app, ints_append]) (by unfold maxLen; omega) (by omega)) rfl ?_
        rintro ⟨⟨ao46, c46⟩, hc46⟩
        dsimp only at hc46 ⊢
        refine WL.y (Yl.assign rfl) rfl ?_
        refine WL.nil ?_
        refine WC.region ?_
        refine WL.y (Yl.move rfl) rfl ?_
        refine WL.y (Yl.add rfl rfl (IntWalk.i64_in _ (by omega))) rfl ?_
        refine WL.y (Yl.assign rfl) rfl ?_
        refine WL.nil ?_
        exact ⟨rfl, (i + 1, ao46, c46), by dsimp only; omega, by dsimp only; omega, (by repeat (first | exact Sub.nil | refine Sub.cons rfl ?_)), _, (by repeat (first | exact TakeL.nil | (apply TakeL.cons; · repeat (first | exact Take1.head | apply Take1.tail))))⟩
      · refine WC.skip ?_
        refine WC.region ?_
        refine WL.y (Yl.move rfl) rfl ?_
        refine WL.y (Yl.add rfl rfl (IntWalk.i64_in _ (by omega))) rfl ?_
        refine WL.y (Yl.assign rfl) rfl ?_
        refine WL.nil ?_
        have hd : decU p.rl i = true := by simpa using g42
        have hnx : outU p.rl (i + 1) = outU p.rl i := by rw [outU_next, hd]; simp
        exact ⟨rfl, (i + 1, ao4, c4), by dsimp only; omega, by dsimp only; omega, by dsimp only; rw [hnx]; exact (by repeat (first | exact Sub.nil | refine Sub.cons rfl ?_)), _, by dsimp only; rw [hnx]; exact (by repeat (first | exact TakeL.nil | (apply TakeL.cons; · repeat (first | exact Take1.head | apply Take1.tail))))⟩
    · refine WC.exit ?_
      refine WC.seq ?_
      refine WC.region ?_
      refine WL.y (Yl.move rfl) rfl ?_
      refine WL.y (Yl.assign rfl) rfl ?_
      refine WL.nil ?_
      refine WC.ret ?_
      repeat (first | (with_reducible refine peelT ?_) | (with_reducible refine peelB ?_) | (with_reducible refine peelTX ?_) | (with_reducible refine peelBX ?_) | (with_reducible refine peelBN ?_) | (with_reducible refine peelBO rfl ?_))
      have e : outU p.rl i = idleU p.rl := by
        have : i = p.rl.length := by omega
        rw [this]
        rfl
      rw [e]
      exact ret1 (.inr rfl) Try.results19 rfl fun w' h => ⟨(ao4, c4), trivial, rfl, h.sub (by repeat (first | exact TakeL.nil | (apply TakeL.cons; · repeat (first | exact Take1.head | apply Take1.tail))))⟩
end Go.Proofs.Ytnlibngncicobaa
