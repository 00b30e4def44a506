/- The document's policy: Insert, Remove, Decides, Ask: the walks. -/
import Derived.Test.YtnlibngncicobaaPolX
namespace Go.Proofs.Ytnlibngncicobaa
open Go Go.RowKit
def Po.rcells (p : Po) (v : Value) : List Value := .int .u8 p.df :: v :: (p.no.map Value.bool ++ ints .u64 p.la)
def polS (b : Nat) (ao : Option Addr) (ca : Nat) (p : Po) : List Res := [blkR b 42 (p.rcells (.slice ao p.rl.length ca)), rdR (.slice ao p.rl.length ca) 5 p.rl.length (vcs ruV p.rl)]
theorem Po.rlen {p : Po} (h : p.sz) (v : Value) : (p.rcells v).length = 18 := by simp [Po.rcells, ints_length, h.la, h.no]
theorem Po.rones (p : Po) (v : Value) (hv : v.oneCell' = true) : ∀ u ∈ p.rcells v, u.oneCell' = true := by
  intro u hu
  unfold Po.rcells at hu
  rcases List.mem_cons.1 hu with rfl | hu
  · rfl
  · rcases List.mem_cons.1 hu with rfl | hu
    · exact hv
    · rcases List.mem_append.1 hu with hu | hu
      · obtain ⟨x, _, rfl⟩ := List.mem_map.1 hu
        rfl
      · exact ints_one _ _ u hu
theorem vtR : VT Try.prog 27 5 Ru.ok ruV := .agg (cel := Ru.cells) (by kernel_rfl) (by kernel_rfl) (by decide) (fun _ => rfl) (fun r _ => Ru.len r) (fun r => Ru.ones r)
theorem rdRr {bv : Nat} {x : Ru} : RdOf (blkR bv 27 x.cells) (.slice (some ⟨bv, 0, none⟩) 1 1) 5 1 x.cells := RdOf.blk (Nat.le_refl _) (by unfold maxLen; omega) (by rw [Ru.len x]; omega) (by rw [List.drop_zero, List.take_of_length_le (by rw [Ru.len x]; omega)])
set_option maxRecDepth 100000 in
theorem rins_any (b : Nat) (ao : Option Addr) (ca : Nat) (p : Po) (z : Int) (r : Ru) (hro : UOk p.rl) (hln : p.rl.length ≤ 64) (hr : r.ok) (w : World) (hw : OK w (fpL (polS b ao ca p)) (polS b ao ca p) w) :
    Fn Try.prog 15 [.pointer (some ⟨b, 0, none⟩), .int .i64 z, ruV r] (polS b ao ca p) w (fun _ : Option Addr × Nat => True) (fun _ => .int .i64 (insE p z r)) (fun y => polS b y.1 y.2 (insP p z r)) := by
  unfold polS at hw ⊢
  unfold ruV
  obtain ⟨_, _, he, hcl, hml⟩ := (hw.get (r := rdR (.slice ao p.rl.length ca) 5 p.rl.length (vcs ruV p.rl)) (.tail .head) : Rd _ _ _ _ _).form
  cases he
  refine enterF Try.func15 rfl Try.ntmps15 rfl hw ?_
  refine WC.seq ?_
  refine WC.region ?_
  refine WL.to (To.box (cs := r.cells) rfl rfl) rfl ?_
  intro b5
  refine WL.y (Yl.assign rfl) rfl ?_
  refine WL.nil ?_
  refine WC.seq ?_
  refine WC.seq ?_
  refine WC.region ?_
  refine WL.y (Yl.loadN ag27 rfl (by repeat (first | exact Take1.head | apply Take1.tail)) (by rfl) (Ru.call r)) rfl ?_
  refine WL.callC (xs := [.tmp 7]) (cap := []) rfl rfl en10 (by repeat (first | exact TakeL.nil | (apply TakeL.cons; · repeat (first | exact Take1.head | apply Take1.tail)))) (fun w hw => rmay_any r w hw.left.here) rfl ?_
  rintro ⟨⟩ -
  refine WL.y (Yl.not rfl) rfl ?_
  refine WL.nil ?_
  refine WC.cond rfl (fun g9 => ?_) (fun g9 => ?_)
  · refine WC.seq ?_
    refine WC.region ?_
    refine WL.y (Yl.assign rfl) rfl ?_
    refine WL.nil ?_
    refine WC.ret ?_
    repeat (first | (with_reducible refine peelT ?_) | (with_reducible refine peelB ?_) | (with_reducible refine peelTX ?_) | (with_reducible refine peelBX ?_) | (with_reducible refine peelBN ?_) | (with_reducible refine peelBO rfl ?_))
    have hm : mayU r = false := by simpa using g9
    obtain ⟨e1, e2⟩ := insE_may (p := p) (z := z) hm
    rw [e1, e2]
    exact ret1 (.inr rfl) Try.results15 rfl fun w' h => ⟨(ao, ca), trivial, rfl, h.sub (by repeat (first | exact TakeL.nil | (apply TakeL.cons; · repeat (first | exact Take1.head | apply Take1.tail))))⟩
  · refine WC.skip ?_
    refine WC.seq ?_
    refine WC.seq ?_
    have hm : mayU r = true := by simpa using g9
    refine WC.region ?_
    refine WL.y (Yl.move rfl) rfl ?_
    refine WL.y (Yl.lss rfl rfl) rfl ?_
    refine WL.y (Yl.move rfl) rfl ?_
    refine WL.both (t := 12) rfl (fun g12 => ?_) (fun g12 => ?_)
    · refine WL.off rfl rfl rfl rfl ?_
      refine WL.off rfl rfl rfl rfl ?_
      refine WL.off rfl rfl rfl rfl ?_
      refine WL.off rfl rfl rfl rfl ?_
      refine WL.off rfl rfl rfl rfl ?_
      refine WL.off rfl rfl rfl rfl ?_
      refine WL.off rfl rfl rfl rfl ?_
      refine WL.y (Yl.pickT rfl rfl) rfl ?_
      refine WL.nil ?_
      refine WC.condT rfl (by first | rfl | (simp; done) | (simp; omega)) ?_
      refine WC.seq ?_
      refine WC.region ?_
      refine WL.y (Yl.assign rfl) rfl ?_
      refine WL.nil ?_
      refine WC.ret ?_
      repeat (first | (with_reducible refine peelT ?_) | (with_reducible refine peelB ?_) | (with_reducible refine peelTX ?_) | (with_reducible refine peelBX ?_) | (with_reducible refine peelBN ?_) | (with_reducible refine peelBO rfl ?_))
      obtain ⟨e1, e2⟩ := insE_at (p := p) hm (.inl (by simpa using g12))
      rw [e1, e2]
      exact ret1 (.inr rfl) Try.results15 rfl fun w' h => ⟨(ao, ca), trivial, rfl, h.sub (by repeat (first | exact TakeL.nil | (apply TakeL.cons; · repeat (first | exact Take1.head | apply Take1.tail))))⟩
    · refine WL.on rfl rfl ?_
      refine WL.y (Yl.move rfl) rfl ?_
      refine WL.on rfl rfl ?_
      refine WL.y (Yl.move rfl) rfl ?_
      refine WL.on rfl rfl ?_
      refine WL.y (Yl.nilCheck rfl) rfl ?_
      refine WL.on rfl rfl ?_
      refine WL.y (Yl.field fo42_1 rfl) rfl ?_
      refine WL.on rfl rfl ?_
      refine WL.y (Yl.load on38 rfl (by repeat (first | exact Take1.head | apply Take1.tail)) (by rfl)) rfl ?_
      refine WL.on rfl rfl ?_
      refine WL.y (Yl.len un38 rfl) rfl ?_
      refine WL.on rfl rfl ?_
      refine WL.y (Yl.gtr rfl rfl) rfl ?_
      refine WL.y (Yl.pickF rfl rfl) rfl ?_
      refine WL.nil ?_
      refine WC.condD rfl (fun g20 => ?_) (fun g20 => ?_)
      · refine WC.seq ?_
        refine WC.region ?_
        refine WL.y (Yl.assign rfl) rfl ?_
        refine WL.nil ?_
        refine WC.ret ?_
        repeat (first | (with_reducible refine peelT ?_) | (with_reducible refine peelB ?_) | (with_reducible refine peelTX ?_) | (with_reducible refine peelBX ?_) | (with_reducible refine peelBN ?_) | (with_reducible refine peelBO rfl ?_))
        obtain ⟨e1, e2⟩ := insE_at (p := p) hm (.inr (by simpa using g20))
        rw [e1, e2]
        exact ret1 (.inr rfl) Try.results15 rfl fun w' h => ⟨(ao, ca), trivial, rfl, h.sub (by repeat (first | exact TakeL.nil | (apply TakeL.cons; · repeat (first | exact Take1.head | apply Take1.tail))))⟩
      · refine WC.skip ?_
        refine WC.seq ?_
        refine WC.seq ?_
        have hz : ¬ (z < 0 ∨ (p.rl.length : Int) < z) := by
          have h1 : ¬ z < 0 := by simpa using g12
          have h2 : ¬ (p.rl.length : Int) < z := by simpa using g20
          omega
        refine WC.region ?_
        refine WL.y (Yl.move rfl) rfl ?_
        refine WL.y (Yl.nilCheck rfl) rfl ?_
        refine WL.y (Yl.field fo42_1 rfl) rfl ?_
        refine WL.y (Yl.load on38 rfl (by repeat (first | exact Take1.head | apply Take1.tail)) (by rfl)) rfl ?_
        refine WL.y (Yl.len un38 rfl) rfl ?_
        refine WL.y (Yl.eql rfl rfl) rfl ?_
        refine WL.nil ?_
        refine WC.condD rfl (fun g26 => ?_) (fun g26 => ?_)
        · refine WC.seq ?_
          refine WC.region ?_
          refine WL.y (Yl.assign rfl) rfl ?_
          refine WL.nil ?_
          refine WC.ret ?_
          repeat (first | (with_reducible refine peelT ?_) | (with_reducible refine peelB ?_) | (with_reducible refine peelTX ?_) | (with_reducible refine peelBX ?_) | (with_reducible refine peelBN ?_) | (with_reducible refine peelBO rfl ?_))
          obtain ⟨e1, e2⟩ := insE_full (p := p) hm hz (by have := g26; omega)
          rw [e1, e2]
          exact ret1 (.inr rfl) Try.results15 rfl fun w' h => ⟨(ao, ca), trivial, rfl, h.sub (by repeat (first | exact TakeL.nil | (apply TakeL.cons; · repeat (first | exact Take1.head | apply Take1.tail))))⟩
        · refine WC.skip ?_
          refine WC.seq ?_
          have hl64 : ¬ p.rl.length = 64 := by have := g26; omega
          obtain ⟨e1, e2⟩ := insE_ok (p := p) hm hz hl64
          obtain ⟨i, hi⟩ : ∃ i : Nat, (i : Int) = z := ⟨z.toNat, by omega⟩
          subst hi
          rw [Int.toNat_natCast] at e2
          have hil : i ≤ p.rl.length := by omega
          have hlen := insU_len r hil
          refine WC.drawLast 21 (Hs := [blkR b 42 (p.rcells (.slice ao p.rl.length ca)), rdR (.slice ao p.rl.length ca) 5 p.rl.length (vcs ruV p.rl), blkR b5 27 r.cells]) rfl rfl mixed (by kernel_rfl) ⟨_, (by repeat (first | exact TakeL.nil | (apply TakeL.cons; · repeat (first | exact Take1.head | apply Take1.tail))))⟩ ?_
          dsimp only [List.dropLast]
          refine WD.take 0 rfl (by kernel_rfl) (by kernel_rfl) (by kernel_rfl) rfl rfl (Yl.move rfl) rfl ?_
          refine WD.take 2 rfl (by kernel_rfl) (by kernel_rfl) (by kernel_rfl) rfl rfl (Yl.move rfl) rfl ?_
          refine WD.take 3 rfl (by kernel_rfl) (by kernel_rfl) (by kernel_rfl) rfl rfl (Yl.nilCheck rfl) rfl ?_
          refine WD.take 4 rfl (by kernel_rfl) (by kernel_rfl) (by kernel_rfl) rfl rfl (Yl.field fo42_1 rfl) rfl ?_
          refine WD.take 5 rfl (by kernel_rfl) (by kernel_rfl) (by kernel_rfl) rfl rfl (Yl.load on38 rfl (by repeat (first | exact Take1.head | apply Take1.tail)) (by rfl)) rfl ?_
          refine WD.take 6 rfl (by kernel_rfl) (by kernel_rfl) (by kernel_rfl) rfl rfl (Yl.move rfl) rfl ?_
          refine WD.take 7 rfl (by kernel_rfl) (by kernel_rfl) (by kernel_rfl) rfl rfl (Yl.slice un38 sz27 rfl rfl ⟨_, rfl⟩ (by omega) (by omega)) rfl ?_
          refine WD.take 9 rfl (by kernel_rfl) (by kernel_rfl) (by kernel_rfl) rfl rfl (Yl.loadN ag27 rfl (by repeat (first | exact Take1.head | apply Take1.tail)) (by rfl) (Ru.call r)) rfl ?_
          refine WD.take 12 rfl (by kernel_rfl) (by kernel_rfl) (by kernel_rfl) rfl rfl (Yl.move rfl) rfl ?_
          refine WD.take 13 rfl (by kernel_rfl) (by kernel_rfl) (by kernel_rfl) rfl rfl (Yl.nilCheck rfl) rfl ?_
          refine WD.take 14 rfl (by kernel_rfl) (by kernel_rfl) (by kernel_rfl) rfl rfl (Yl.field fo42_1 rfl) rfl ?_
          refine WD.take 15 rfl (by kernel_rfl) (by kernel_rfl) (by kernel_rfl) rfl rfl (Yl.load on38 rfl (by repeat (first | exact Take1.head | apply Take1.tail)) (by rfl)) rfl ?_
          refine WD.take 16 rfl (by kernel_rfl) (by kernel_rfl) (by kernel_rfl) rfl rfl (Yl.move rfl) rfl ?_
          refine WD.take 17 rfl (by kernel_rfl) (by kernel_rfl) (by kernel_rfl) rfl rfl (Yl.slice un38 sz27 rfl ⟨_, rfl⟩ rfl (by omega) (by omega)) rfl ?_
          refine WD.two 1 10 (by kernel_rfl) ?_ ?_
          · refine WO.to rfl rfl .no (To.buildSlice (vs := []) un38 zs27 rfl rfl (by simp [Value.cells]) (by decide) (by decide)) rfl (fun _ => ⟨_, (by repeat (first | exact TakeL.nil | (apply TakeL.cons; · repeat (first | exact Take1.head | apply Take1.tail))))⟩) ?_
            intro b28
            rw [show flat [] = [] from rfl]
            refine WD.view (fun w h => h.blkOwn (b := b28) (size := 5) (n := 0) (by repeat (first | exact Take1.head | apply Take1.tail)) (by unfold maxLen; omega) rfl) ?_
            refine WD.two 8 10 (by kernel_rfl) ?_ ?_
            · refine WO.to rfl rfl .no (To.append sl38 rfl rfl (by repeat (first | exact Take1.head | apply Take1.tail)) (Reads.of (RdOf.sub (r := rdR (.slice ao p.rl.length ca) 5 p.rl.length (vcs ruV p.rl)) RdOf.rd' (Nat.zero_le _) hil (cs' := vcs ruV (p.rl.take i)) (by rw [Nat.zero_mul, List.drop_zero, Nat.sub_zero, ru_take hro])) (by repeat (first | exact Take1.head | apply Take1.tail))) (vtR.ones _) (by rw [Nat.sub_zero, Nat.zero_add]) (List.nil_append _) (by unfold maxLen; omega) (by omega)) rfl (fun _ => ⟨_, (by repeat (first | exact TakeL.nil | (apply TakeL.cons; · repeat (first | exact Take1.head | apply Take1.tail))))⟩) ?_
              rintro ⟨⟨ao35, c35⟩, hc35⟩
              dsimp only at hc35 ⊢
              refine WD.one 10 (by kernel_rfl) ?_
              refine WO.to rfl rfl .no (To.buildSlice (vs := [.agg r.cells.toArray]) un38 zs27 rfl rfl (by simp [Value.cells, Ru.cells]) (by decide) (by decide)) rfl (fun _ => ⟨_, (by repeat (first | exact TakeL.nil | (apply TakeL.cons; · repeat (first | exact Take1.head | apply Take1.tail))))⟩) ?_
              intro b37
              rw [flat1]
              refine WD.one 11 (by kernel_rfl) ?_
              refine WO.to rfl rfl .no (To.append sl38 rfl rfl (by repeat (first | exact Take1.head | apply Take1.tail)) (Reads.of (r := blkR b37 27 r.cells) rdRr (by repeat (first | exact Take1.head | apply Take1.tail))) (Ru.ones r) rfl (show vcs ruV (p.rl.take i) ++ r.cells = vcs ruV (p.rl.take i ++ [r]) by rw [vcs_app, vcs_one]; rfl) (by unfold maxLen; omega) (by omega)) rfl (fun _ => ⟨_, (by repeat (first | exact TakeL.nil | (apply TakeL.cons; · repeat (first | exact Take1.head | apply Take1.tail))))⟩) ?_
              rintro ⟨⟨ao38, c38⟩, hc38⟩
              dsimp only at hc38 ⊢
              refine WD.one 18 (by kernel_rfl) ?_
              refine WO.to rfl rfl .no (To.append sl38 rfl rfl (by repeat (first | exact Take1.head | apply Take1.tail)) (Reads.of (RdOf.sub (r := rdR (.slice ao p.rl.length ca) 5 p.rl.length (vcs ruV p.rl)) RdOf.rd' hil (Nat.le_refl _) (cs' := vcs ruV (p.rl.drop i)) (by rw [ru_drop hro, List.take_of_length_le (by rw [ru_len (fun r h => hro r (List.mem_of_mem_drop h)), List.length_drop]; exact Nat.le_refl _)])) (by repeat (first | exact Take1.head | apply Take1.tail))) (vtR.ones _) (show i + 1 + (p.rl.length - i) = (insU p.rl i r).length by rw [hlen]; omega) (show vcs ruV (p.rl.take i ++ [r]) ++ vcs ruV (p.rl.drop i) = vcs ruV (insU p.rl i r) by rw [← vcs_app, List.append_assoc]; rfl) (by unfold maxLen; omega) (by omega)) rfl (fun _ => ⟨_, (by repeat (first | exact TakeL.nil | (apply TakeL.cons; · repeat (first | exact Take1.head | apply Take1.tail))))⟩) ?_
              rintro ⟨⟨ao45, c45⟩, hc45⟩
              dsimp only at hc45 ⊢
              refine WD.take 19 rfl (by kernel_rfl) (by kernel_rfl) (by kernel_rfl) rfl rfl (Yl.nilCheck rfl) rfl ?_
              refine WD.take 20 rfl (by kernel_rfl) (by kernel_rfl) (by kernel_rfl) rfl rfl (Yl.field fo42_1 rfl) rfl ?_
              refine WD.done (by kernel_rfl) ?_
              refine ⟨_, (Sto.one sz38 rfl rfl (by repeat (first | exact Take1.head | apply Take1.tail)) rfl (by rfl) (by rfl)), ?_⟩
              refine WC.seq ?_
              refine WC.region ?_
              refine WL.y (Yl.assign rfl) rfl ?_
              refine WL.nil ?_
              refine WC.ret ?_
              repeat (first | (with_reducible refine peelT ?_) | (with_reducible refine peelB ?_) | (with_reducible refine peelTX ?_) | (with_reducible refine peelBX ?_) | (with_reducible refine peelBN ?_) | (with_reducible refine peelBO rfl ?_))
              rw [e1, e2]
              exact ret1 (.inr rfl) Try.results15 rfl fun w' h => ⟨(ao45, c45), trivial, rfl, (h.readOnly (v := .slice ao45 (insU p.rl i r).length c45) (by repeat (first | exact Take1.head | apply Take1.tail))).sub (by repeat (first | exact TakeL.nil | (apply TakeL.cons; · repeat (first | exact Take1.head | apply Take1.tail))))⟩
            · refine WO.to rfl rfl .no (To.buildSlice (vs := [.agg r.cells.toArray]) un38 zs27 rfl rfl (by simp [Value.cells, Ru.cells]) (by decide) (by decide)) rfl (fun _ => ⟨_, (by repeat (first | exact TakeL.nil | (apply TakeL.cons; · repeat (first | exact Take1.head | apply Take1.tail))))⟩) ?_
              intro b37
              rw [flat1]
              refine WD.one 8 (by kernel_rfl) ?_
              refine WO.to rfl rfl .no (To.append sl38 rfl rfl (by repeat (first | exact Take1.head | apply Take1.tail)) (Reads.of (RdOf.sub (r := rdR (.slice ao p.rl.length ca) 5 p.rl.length (vcs ruV p.rl)) RdOf.rd' (Nat.zero_le _) hil (cs' := vcs ruV (p.rl.take i)) (by rw [Nat.zero_mul, List.drop_zero, Nat.sub_zero, ru_take hro])) (by repeat (first | exact Take1.head | apply Take1.tail))) (vtR.ones _) (by rw [Nat.sub_zero, Nat.zero_add]) (List.nil_append _) (by unfold maxLen; omega) (by omega)) rfl (fun _ => ⟨_, (by repeat (first | exact TakeL.nil | (apply TakeL.cons; · repeat (first | exact Take1.head | apply Take1.tail))))⟩) ?_
              rintro ⟨⟨ao35, c35⟩, hc35⟩
              dsimp only at hc35 ⊢
              refine WD.one 11 (by kernel_rfl) ?_
              refine WO.to rfl rfl .no (To.append sl38 rfl rfl (by repeat (first | exact Take1.head | apply Take1.tail)) (Reads.of (r := blkR b37 27 r.cells) rdRr (by repeat (first | exact Take1.head | apply Take1.tail))) (Ru.ones r) rfl (show vcs ruV (p.rl.take i) ++ r.cells = vcs ruV (p.rl.take i ++ [r]) by rw [vcs_app, vcs_one]; rfl) (by unfold maxLen; omega) (by omega)) rfl (fun _ => ⟨_, (by repeat (first | exact TakeL.nil | (apply TakeL.cons; · repeat (first | exact Take1.head | apply Take1.tail))))⟩) ?_
              rintro ⟨⟨ao38, c38⟩, hc38⟩
              dsimp only at hc38 ⊢
              refine WD.one 18 (by kernel_rfl) ?_
              refine WO.to rfl rfl .no (To.append sl38 rfl rfl (by repeat (first | exact Take1.head | apply Take1.tail)) (Reads.of (RdOf.sub (r := rdR (.slice ao p.rl.length ca) 5 p.rl.length (vcs ruV p.rl)) RdOf.rd' hil (Nat.le_refl _) (cs' := vcs ruV (p.rl.drop i)) (by rw [ru_drop hro, List.take_of_length_le (by rw [ru_len (fun r h => hro r (List.mem_of_mem_drop h)), List.length_drop]; exact Nat.le_refl _)])) (by repeat (first | exact Take1.head | apply Take1.tail))) (vtR.ones _) (show i + 1 + (p.rl.length - i) = (insU p.rl i r).length by rw [hlen]; omega) (show vcs ruV (p.rl.take i ++ [r]) ++ vcs ruV (p.rl.drop i) = vcs ruV (insU p.rl i r) by rw [← vcs_app, List.append_assoc]; rfl) (by unfold maxLen; omega) (by omega)) rfl (fun _ => ⟨_, (by repeat (first | exact TakeL.nil | (apply TakeL.cons; · repeat (first | exact Take1.head | apply Take1.tail))))⟩) ?_
              rintro ⟨⟨ao45, c45⟩, hc45⟩
              dsimp only at hc45 ⊢
              refine WD.take 19 rfl (by kernel_rfl) (by kernel_rfl) (by kernel_rfl) rfl rfl (Yl.nilCheck rfl) rfl ?_
              refine WD.take 20 rfl (by kernel_rfl) (by kernel_rfl) (by kernel_rfl) rfl rfl (Yl.field fo42_1 rfl) rfl ?_
              refine WD.done (by kernel_rfl) ?_
              refine ⟨_, (Sto.one sz38 rfl rfl (by repeat (first | exact Take1.head | apply Take1.tail)) rfl (by rfl) (by rfl)), ?_⟩
              refine WC.seq ?_
              refine WC.region ?_
              refine WL.y (Yl.assign rfl) rfl ?_
              refine WL.nil ?_
              refine WC.ret ?_
              repeat (first | (with_reducible refine peelT ?_) | (with_reducible refine peelB ?_) | (with_reducible refine peelTX ?_) | (with_reducible refine peelBX ?_) | (with_reducible refine peelBN ?_) | (with_reducible refine peelBO rfl ?_))
              rw [e1, e2]
              exact ret1 (.inr rfl) Try.results15 rfl fun w' h => ⟨(ao45, c45), trivial, rfl, (h.readOnly (v := .slice ao45 (insU p.rl i r).length c45) (by repeat (first | exact Take1.head | apply Take1.tail))).sub (by repeat (first | exact TakeL.nil | (apply TakeL.cons; · repeat (first | exact Take1.head | apply Take1.tail))))⟩
          · refine WO.to rfl rfl .no (To.buildSlice (vs := [.agg r.cells.toArray]) un38 zs27 rfl rfl (by simp [Value.cells, Ru.cells]) (by decide) (by decide)) rfl (fun _ => ⟨_, (by repeat (first | exact TakeL.nil | (apply TakeL.cons; · repeat (first | exact Take1.head | apply Take1.tail))))⟩) ?_
            intro b37
            rw [flat1]
            refine WD.one 1 (by kernel_rfl) ?_
            refine WO.to rfl rfl .no (To.buildSlice (vs := []) un38 zs27 rfl rfl (by simp [Value.cells]) (by decide) (by decide)) rfl (fun _ => ⟨_, (by repeat (first | exact TakeL.nil | (apply TakeL.cons; · repeat (first | exact Take1.head | apply Take1.tail))))⟩) ?_
            intro b28
            rw [show flat [] = [] from rfl]
            refine WD.view (fun w h => h.blkOwn (b := b28) (size := 5) (n := 0) (by repeat (first | exact Take1.head | apply Take1.tail)) (by unfold maxLen; omega) rfl) ?_
            refine WD.one 8 (by kernel_rfl) ?_
            refine WO.to rfl rfl .no (To.append sl38 rfl rfl (by repeat (first | exact Take1.head | apply Take1.tail)) (Reads.of (RdOf.sub (r := rdR (.slice ao p.rl.length ca) 5 p.rl.length (vcs ruV p.rl)) RdOf.rd' (Nat.zero_le _) hil (cs' := vcs ruV (p.rl.take i)) (by rw [Nat.zero_mul, List.drop_zero, Nat.sub_zero, ru_take hro])) (by repeat (first | exact Take1.head | apply Take1.tail))) (vtR.ones _) (by rw [Nat.sub_zero, Nat.zero_add]) (List.nil_append _) (by unfold maxLen; omega) (by omega)) rfl (fun _ => ⟨_, (by repeat (first | exact TakeL.nil | (apply TakeL.cons; · repeat (first | exact Take1.head | apply Take1.tail))))⟩) ?_
            rintro ⟨⟨ao35, c35⟩, hc35⟩
            dsimp only at hc35 ⊢
            refine WD.one 11 (by kernel_rfl) ?_
            refine WO.to rfl rfl .no (To.append sl38 rfl rfl (by repeat (first | exact Take1.head | apply Take1.tail)) (Reads.of (r := blkR b37 27 r.cells) rdRr (by repeat (first | exact Take1.head | apply Take1.tail))) (Ru.ones r) rfl (show vcs ruV (p.rl.take i) ++ r.cells = vcs ruV (p.rl.take i ++ [r]) by rw [vcs_app, vcs_one]; rfl) (by unfold maxLen; omega) (by omega)) rfl (fun _ => ⟨_, (by repeat (first | exact TakeL.nil | (apply TakeL.cons; · repeat (first | exact Take1.head | apply Take1.tail))))⟩) ?_
            rintro ⟨⟨ao38, c38⟩, hc38⟩
            dsimp only at hc38 ⊢
            refine WD.one 18 (by kernel_rfl) ?_
            refine WO.to rfl rfl .no (To.append sl38 rfl rfl (by repeat (first | exact Take1.head | apply Take1.tail)) (Reads.of (RdOf.sub (r := rdR (.slice ao p.rl.length ca) 5 p.rl.length (vcs ruV p.rl)) RdOf.rd' hil (Nat.le_refl _) (cs' := vcs ruV (p.rl.drop i)) (by rw [ru_drop hro, List.take_of_length_le (by rw [ru_len (fun r h => hro r (List.mem_of_mem_drop h)), List.length_drop]; exact Nat.le_refl _)])) (by repeat (first | exact Take1.head | apply Take1.tail))) (vtR.ones _) (show i + 1 + (p.rl.length - i) = (insU p.rl i r).length by rw [hlen]; omega) (show vcs ruV (p.rl.take i ++ [r]) ++ vcs ruV (p.rl.drop i) = vcs ruV (insU p.rl i r) by rw [← vcs_app, List.append_assoc]; rfl) (by unfold maxLen; omega) (by omega)) rfl (fun _ => ⟨_, (by repeat (first | exact TakeL.nil | (apply TakeL.cons; · repeat (first | exact Take1.head | apply Take1.tail))))⟩) ?_
            rintro ⟨⟨ao45, c45⟩, hc45⟩
            dsimp only at hc45 ⊢
            refine WD.take 19 rfl (by kernel_rfl) (by kernel_rfl) (by kernel_rfl) rfl rfl (Yl.nilCheck rfl) rfl ?_
            refine WD.take 20 rfl (by kernel_rfl) (by kernel_rfl) (by kernel_rfl) rfl rfl (Yl.field fo42_1 rfl) rfl ?_
            refine WD.done (by kernel_rfl) ?_
            refine ⟨_, (Sto.one sz38 rfl rfl (by repeat (first | exact Take1.head | apply Take1.tail)) rfl (by rfl) (by rfl)), ?_⟩
            refine WC.seq ?_
            refine WC.region ?_
            refine WL.y (Yl.assign rfl) rfl ?_
            refine WL.nil ?_
            refine WC.ret ?_
            repeat (first | (with_reducible refine peelT ?_) | (with_reducible refine peelB ?_) | (with_reducible refine peelTX ?_) | (with_reducible refine peelBX ?_) | (with_reducible refine peelBN ?_) | (with_reducible refine peelBO rfl ?_))
            rw [e1, e2]
            exact ret1 (.inr rfl) Try.results15 rfl fun w' h => ⟨(ao45, c45), trivial, rfl, (h.readOnly (v := .slice ao45 (insU p.rl i r).length c45) (by repeat (first | exact Take1.head | apply Take1.tail))).sub (by repeat (first | exact TakeL.nil | (apply TakeL.cons; · repeat (first | exact Take1.head | apply Take1.tail))))⟩
end Go.Proofs.Ytnlibngncicobaa

namespace Go.Proofs.Ytnlibngncicobaa
open Go Go.RowKit
end Go.Proofs.Ytnlibngncicobaa

namespace Go.Proofs.Ytnlibngncicobaa
open Go Go.RowKit
end Go.Proofs.Ytnlibngncicobaa
