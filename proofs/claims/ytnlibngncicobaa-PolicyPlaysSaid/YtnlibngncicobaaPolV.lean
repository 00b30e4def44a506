/- The document's policy: Bytes, Load: the walks. -/
import Derived.Test.YtnlibngncicobaaPolS
namespace Go.Proofs.Ytnlibngncicobaa
open Go Go.RowKit
theorem quo256 {n : Int} (h : 0 ≤ n ∧ n < 65536) : IntKind.u16.wrap (n.tdiv 256) = n / 256 := by
  rw [Int.tdiv_eq_ediv_of_nonneg h.1, u16_mod]
  omega
theorem rem256 {n : Int} (h : 0 ≤ n ∧ n < 65536) : n.tmod 256 = n % 256 := Int.tmod_eq_emod_of_nonneg h.1
theorem encU_is {x : Ru} (h : x.ok) : encU x = [x.acc, 0, 0, x.fr / 256, x.fr % 256, 0, 0, x.tt / 256, x.tt % 256, x.dO, if x.ag then 1 else 0] := by
  have h1 := h.fr
  have h2 := h.tt
  have e1 := be4 (x := x.fr / 256) (y := x.fr % 256) (by omega) (by omega)
  have e2 := be4 (x := x.tt / 256) (y := x.tt % 256) (by omega) (by omega)
  rw [show 256 * (x.fr / 256) + x.fr % 256 = x.fr by omega] at e1
  rw [show 256 * (x.tt / 256) + x.tt % 256 = x.tt by omega] at e2
  unfold encU
  rw [e1, e2]
  rfl
def polO (p : Po) (i : Nat) : List Int := [p.df, 0, (p.rl.length : Int)] ++ rlB (p.rl.take i)
theorem polO_len {p : Po} {i : Nat} (h : i ≤ p.rl.length) : (polO p i).length = 3 + 11 * i := by
  unfold polO
  rw [List.length_append, rlB_len, List.length_take, Nat.min_eq_left h]
  rfl
theorem polO_end {p : Po} (h : p.rl.length ≤ 64) : polO p p.rl.length = polB p := by
  unfold polO polB
  rw [List.take_length]
  have : be (p.rl.length : Int) 2 = [0, (p.rl.length : Int)] := by
    unfold be beK
    simp [List.range_succ]
    omega
  rw [this]
  rfl
theorem polO_next {p : Po} {i : Nat} {x : Ru} (h : p.rl[i]? = some x) : polO p (i + 1) = polO p i ++ encU x := by
  unfold polO
  rw [← take_snoc _ _ _ h, rlB_snoc, List.append_assoc]
set_option maxRecDepth 100000 in
theorem rbytes_any (b : Nat) (ao : Option Addr) (ca : Nat) (p : Po) (hro : UOk p.rl) (hln : p.rl.length ≤ 64) (w : World) (hw : OK w (fpL [roR (blkR b 42 (p.rcells (.slice ao p.rl.length ca))), rdR (.slice ao p.rl.length ca) 5 p.rl.length (vcs ruV p.rl)]) [roR (blkR b 42 (p.rcells (.slice ao p.rl.length ca))), rdR (.slice ao p.rl.length ca) 5 p.rl.length (vcs ruV p.rl)] w) :
    Fn Try.prog 58 [.pointer (some ⟨b, 0, none⟩)] [roR (blkR b 42 (p.rcells (.slice ao p.rl.length ca))), rdR (.slice ao p.rl.length ca) 5 p.rl.length (vcs ruV p.rl)] w (fun _ : Option Addr × Nat => True) (fun y => .slice y.1 (polB p).length y.2) (fun y => [ownR (.slice y.1 (polB p).length y.2) 5 1 (polB p).length (ints .u8 (polB p))]) := by
  refine enterF Try.func58 rfl Try.ntmps58 rfl hw ?_
  refine WC.seq ?_
  refine WC.region ?_
  refine WL.y (Yl.assign rfl) rfl ?_
  refine WL.nil ?_
  refine WC.seq ?_
  refine WC.drawAny (Hs := [roR (blkR b 42 (p.rcells (.slice ao p.rl.length ca))), rdR (.slice ao p.rl.length ca) 5 p.rl.length (vcs ruV p.rl)]) mixed (by kernel_rfl) ⟨_, (by repeat (first | exact TakeL.nil | (apply TakeL.cons; · repeat (first | exact Take1.head | apply Take1.tail))))⟩ ?_
  refine WD.take 0 rfl (by kernel_rfl) (by kernel_rfl) (by kernel_rfl) rfl rfl (Yl.move rfl) rfl ?_
  refine WD.take 1 rfl (by kernel_rfl) (by kernel_rfl) (by kernel_rfl) rfl rfl (Yl.nilCheck rfl) rfl ?_
  refine WD.take 2 rfl (by kernel_rfl) (by kernel_rfl) (by kernel_rfl) rfl rfl (Yl.field fo42_0 rfl) rfl ?_
  refine WD.take 3 rfl (by kernel_rfl) (by kernel_rfl) (by kernel_rfl) rfl rfl (Yl.loadRo on5 rfl (by repeat (first | exact Take1.head | apply Take1.tail)) (by rfl)) rfl ?_
  refine WD.take 4 rfl (by kernel_rfl) (by kernel_rfl) (by kernel_rfl) rfl rfl (Yl.move rfl) rfl ?_
  refine WD.take 5 rfl (by kernel_rfl) (by kernel_rfl) (by kernel_rfl) rfl rfl (Yl.nilCheck rfl) rfl ?_
  refine WD.take 6 rfl (by kernel_rfl) (by kernel_rfl) (by kernel_rfl) rfl rfl (Yl.field fo42_1 rfl) rfl ?_
  refine WD.take 7 rfl (by kernel_rfl) (by kernel_rfl) (by kernel_rfl) rfl rfl (Yl.loadRo on38 rfl (by repeat (first | exact Take1.head | apply Take1.tail)) (by rfl)) rfl ?_
  refine WD.take 8 rfl (by kernel_rfl) (by kernel_rfl) (by kernel_rfl) rfl rfl (Yl.len un38 rfl) rfl ?_
  refine WD.take 9 rfl (by kernel_rfl) (by kernel_rfl) (by kernel_rfl) rfl rfl (Yl.conv un3 un5 rfl (IntWalk.u8_in _ (by omega))) rfl ?_
  refine WD.one 10 (by kernel_rfl) ?_
  refine WO.to rfl rfl .no (To.buildSlice (vs := [.int .u8 p.df, .int .u8 0, .int .u8 (p.rl.length : Int)]) un55 zs5 rfl rfl (by simp [Value.cells]) (by decide) (by decide)) rfl (fun _ => ⟨_, (by repeat (first | exact TakeL.nil | (apply TakeL.cons; · repeat (first | exact Take1.head | apply Take1.tail))))⟩) ?_
  intro b17
  refine WD.take 11 rfl (by kernel_rfl) (by kernel_rfl) (by kernel_rfl) rfl rfl (Yl.assign rfl) rfl ?_
  refine WD.done (by kernel_rfl) ?_
  refine WC.seq ?_
  refine WC.seq ?_
  refine WC.region ?_
  refine WL.y (Yl.assign rfl) rfl ?_
  refine WL.nil ?_
  refine WC.block ?_
  refine WC.view (fun w h => h.blkOwn (b := b17) (T := 5) (cs := ints .u8 (polO p 0)) (size := 1) (n := 3) (by repeat (first | exact Take1.head | apply Take1.tail)) (by unfold maxLen; omega) rfl) ?_
  refine WC.loop (α := Nat × (Option Addr × Nat)) (fun s => [(0, .pointer (some ⟨b, 0, none⟩)), (3, .slice s.2.1 (polO p s.1).length s.2.2), (4, .int .i64 (s.1 : Int))]) (fun s => [ownR (.slice s.2.1 (polO p s.1).length s.2.2) 5 1 (polO p s.1).length (ints .u8 (polO p s.1)), roR (blkR b 42 (p.rcells (.slice ao p.rl.length ca))), rdR (.slice ao p.rl.length ca) 5 p.rl.length (vcs ruV p.rl)]) (fun s => s.1 ≤ p.rl.length) (fun s => p.rl.length - s.1) (0, (some ⟨b17, 0, none⟩, 3)) (Nat.zero_le _) ⟨(by repeat (first | exact Sub.nil | refine Sub.cons rfl ?_)), _, (by repeat (first | exact TakeL.nil | (apply TakeL.cons; · repeat (first | exact Take1.head | apply Take1.tail))))⟩ ?_
  rintro ⟨i, ao3, c3⟩ hi
  dsimp only at hi ⊢
  have hol := polO_len hi
  refine WC.seq ?_
  refine WC.seq ?_
  refine WC.region ?_
  refine WL.y (Yl.move rfl) rfl ?_
  refine WL.y (Yl.move rfl) rfl ?_
  refine WL.y (Yl.nilCheck rfl) rfl ?_
  refine WL.y (Yl.field fo42_1 rfl) rfl ?_
  refine WL.y (Yl.loadRo on38 rfl (by repeat (first | exact Take1.head | apply Take1.tail)) (by rfl)) rfl ?_
  refine WL.y (Yl.len un38 rfl) rfl ?_
  refine WL.y (Yl.lss rfl rfl) rfl ?_
  refine WL.nil ?_
  refine WC.condD rfl (fun g24 => ?_) (fun g24 => ?_)
  · refine WC.skip ?_
    refine WC.seq ?_
    refine WC.block ?_
    refine WC.seq ?_
    refine WC.region ?_
    refine WL.y (Yl.move rfl) rfl ?_
    refine WL.y (Yl.nilCheck rfl) rfl ?_
    refine WL.y (Yl.field fo42_1 rfl) rfl ?_
    refine WL.y (Yl.loadRo on38 rfl (by repeat (first | exact Take1.head | apply Take1.tail)) (by rfl)) rfl ?_
    refine WL.y (Yl.move rfl) rfl ?_
    have hil : i < p.rl.length := by omega
    obtain ⟨x, hx0⟩ : ∃ x, p.rl[i]? = some x := ⟨_, List.getElem?_eq_getElem hil⟩
    have hxo := hro.get hx0
    have hfr := hxo.fr
    have htt := hxo.tt
    have hnx := polO_next hx0
    rw [encU_is hxo] at hnx
    have hl2 := polO_len (p := p) (i := i + 1) hil
    refine WL.y (Yl.index un38 sz27 rfl rfl (Reads.of (r := rdR (.slice ao p.rl.length ca) 5 p.rl.length (vcs ruV p.rl)) RdOf.rd' (by repeat (first | exact Take1.head | apply Take1.tail))) rfl (by omega)) rfl ?_
    refine WL.y (Yl.loadV (j := i) (u := x) vtR hro rfl (Reads.of (r := rdR (.slice ao p.rl.length ca) 5 p.rl.length (vcs ruV p.rl)) RdOf.rd' (by repeat (first | exact Take1.head | apply Take1.tail))) rfl hx0) rfl ?_
    refine WL.to (To.alloc (cs := Ru.zero.cells) zr27 rfl) rfl ?_
    intro b5
    refine WL.sto (Sto.agg sz27 rfl rfl (by repeat (first | exact Take1.head | apply Take1.tail)) (Ru.ones _) (Ru.len x) (by rfl) (Ru.all Ru.zero x.cells (Ru.len x))) (fun _ h => nomatch h) ?_
    refine WL.nil ?_
    refine WC.seq ?_
    refine WC.region ?_
    refine WL.y (Yl.assign rfl) rfl ?_
    refine WL.nil ?_
    refine WC.seq ?_
    refine WC.seq ?_
    refine WC.region ?_
    refine WL.y (Yl.field fo27_4 rfl) rfl ?_
    refine WL.y (Yl.load on4 rfl (by repeat (first | exact Take1.head | apply Take1.tail)) (by rfl)) rfl ?_
    refine WL.nil ?_
    refine WC.cond rfl (fun g35 => ?_) (fun g35 => ?_)
    · refine WC.region ?_
      refine WL.y (Yl.assign rfl) rfl ?_
      refine WL.nil ?_
      refine WC.region ?_
      refine WL.y (Yl.move rfl) rfl ?_
      refine WL.y (Yl.field fo27_0 rfl) rfl ?_
      refine WL.y (Yl.load on5 rfl (by repeat (first | exact Take1.head | apply Take1.tail)) (by rfl)) rfl ?_
      refine WL.y (Yl.field fo27_1 rfl) rfl ?_
      refine WL.y (Yl.load on22 rfl (by repeat (first | exact Take1.head | apply Take1.tail)) (by rfl)) rfl ?_
      refine WL.y (Yl.quo rfl rfl (by omega) (quo256 hfr)) rfl ?_
      refine WL.y (Yl.conv un22 un5 rfl (IntWalk.u8_in _ (by omega))) rfl ?_
      refine WL.y (Yl.field fo27_1 rfl) rfl ?_
      refine WL.y (Yl.load on22 rfl (by repeat (first | exact Take1.head | apply Take1.tail)) (by rfl)) rfl ?_
      refine WL.y (Yl.rem rfl rfl (by omega) (rem256 hfr)) rfl ?_
      refine WL.y (Yl.conv un22 un5 rfl (IntWalk.u8_in _ (by omega))) rfl ?_
      refine WL.y (Yl.field fo27_2 rfl) rfl ?_
      refine WL.y (Yl.load on22 rfl (by repeat (first | exact Take1.head | apply Take1.tail)) (by rfl)) rfl ?_
      refine WL.y (Yl.quo rfl rfl (by omega) (quo256 htt)) rfl ?_
      refine WL.y (Yl.conv un22 un5 rfl (IntWalk.u8_in _ (by omega))) rfl ?_
      refine WL.y (Yl.field fo27_2 rfl) rfl ?_
      refine WL.y (Yl.load on22 rfl (by repeat (first | exact Take1.head | apply Take1.tail)) (by rfl)) rfl ?_
      refine WL.y (Yl.rem rfl rfl (by omega) (rem256 htt)) rfl ?_
      refine WL.y (Yl.conv un22 un5 rfl (IntWalk.u8_in _ (by omega))) rfl ?_
      refine WL.y (Yl.field fo27_3 rfl) rfl ?_
      refine WL.y (Yl.load on5 rfl (by repeat (first | exact Take1.head | apply Take1.tail)) (by rfl)) rfl ?_
      refine WL.y (Yl.move rfl) rfl ?_
      refine WL.to (To.buildSlice (vs := [.int .u8 x.acc, .int .u8 0, .int .u8 0, .int .u8 (x.fr / 256), .int .u8 (x.fr % 256), .int .u8 0, .int .u8 0, .int .u8 (x.tt / 256), .int .u8 (x.tt % 256), .int .u8 x.dO, .int .u8 1]) un55 zs5 rfl rfl (by simp [Value.cells]) (by decide) (by decide)) rfl ?_
      intro b58
      refine WL.to (To.append sl55 rfl rfl (by repeat (first | exact Take1.head | apply Take1.tail)) (Reads.of (RdOf.blk (size := 1) (n := 11) (cs := ints .u8 [x.acc, 0, 0, x.fr / 256, x.fr % 256, 0, 0, x.tt / 256, x.tt % 256, x.dO, 1]) (cs' := ints .u8 [x.acc, 0, 0, x.fr / 256, x.fr % 256, 0, 0, x.tt / 256, x.tt % 256, x.dO, 1]) (Nat.le_refl _) (by unfold maxLen; omega) (by simp [ints]) rfl) (by repeat (first | exact Take1.head | apply Take1.tail))) (ints_one _ _) (show (polO p i).length + 11 = (polO p (i + 1)).length by omega) (show ints .u8 (polO p i) ++ ints .u8 [x.acc, 0, 0, x.fr / 256, x.fr % 256, 0, 0, x.tt / 256, x.tt % 256, x.dO, 1] = ints .u8 (polO p (i + 1)) by rw [hnx, g35, ints_append]; rfl) (by unfold maxLen; omega) (by omega)) rfl ?_
      rintro ⟨⟨ao59, c59⟩, hc59⟩
      dsimp only at hc59 ⊢
      refine WL.y (Yl.assign rfl) rfl ?_
      refine WL.nil ?_
      refine WC.region ?_
      refine WL.y (Yl.move rfl) rfl ?_
      refine WL.y (Yl.add rfl rfl (IntWalk.i64_in _ (by omega))) rfl ?_
      refine WL.y (Yl.assign rfl) rfl ?_
      refine WL.nil ?_
      exact ⟨rfl, (i + 1, ao59, c59), by dsimp only; omega, by dsimp only; omega, (by repeat (first | exact Sub.nil | refine Sub.cons rfl ?_)), _, (by repeat (first | exact TakeL.nil | (apply TakeL.cons; · repeat (first | exact Take1.head | apply Take1.tail))))⟩
    · refine WC.skip ?_
      refine WC.region ?_
      refine WL.y (Yl.move rfl) rfl ?_
      refine WL.y (Yl.field fo27_0 rfl) rfl ?_
      refine WL.y (Yl.load on5 rfl (by repeat (first | exact Take1.head | apply Take1.tail)) (by rfl)) rfl ?_
      refine WL.y (Yl.field fo27_1 rfl) rfl ?_
      refine WL.y (Yl.load on22 rfl (by repeat (first | exact Take1.head | apply Take1.tail)) (by rfl)) rfl ?_
      refine WL.y (Yl.quo rfl rfl (by omega) (quo256 hfr)) rfl ?_
      refine WL.y (Yl.conv un22 un5 rfl (IntWalk.u8_in _ (by omega))) rfl ?_
      refine WL.y (Yl.field fo27_1 rfl) rfl ?_
      refine WL.y (Yl.load on22 rfl (by repeat (first | exact Take1.head | apply Take1.tail)) (by rfl)) rfl ?_
      refine WL.y (Yl.rem rfl rfl (by omega) (rem256 hfr)) rfl ?_
      refine WL.y (Yl.conv un22 un5 rfl (IntWalk.u8_in _ (by omega))) rfl ?_
      refine WL.y (Yl.field fo27_2 rfl) rfl ?_
      refine WL.y (Yl.load on22 rfl (by repeat (first | exact Take1.head | apply Take1.tail)) (by rfl)) rfl ?_
      refine WL.y (Yl.quo rfl rfl (by omega) (quo256 htt)) rfl ?_
      refine WL.y (Yl.conv un22 un5 rfl (IntWalk.u8_in _ (by omega))) rfl ?_
      refine WL.y (Yl.field fo27_2 rfl) rfl ?_
      refine WL.y (Yl.load on22 rfl (by repeat (first | exact Take1.head | apply Take1.tail)) (by rfl)) rfl ?_
      refine WL.y (Yl.rem rfl rfl (by omega) (rem256 htt)) rfl ?_
      refine WL.y (Yl.conv un22 un5 rfl (IntWalk.u8_in _ (by omega))) rfl ?_
      refine WL.y (Yl.field fo27_3 rfl) rfl ?_
      refine WL.y (Yl.load on5 rfl (by repeat (first | exact Take1.head | apply Take1.tail)) (by rfl)) rfl ?_
      refine WL.y (Yl.move rfl) rfl ?_
      refine WL.to (To.buildSlice (vs := [.int .u8 x.acc, .int .u8 0, .int .u8 0, .int .u8 (x.fr / 256), .int .u8 (x.fr % 256), .int .u8 0, .int .u8 0, .int .u8 (x.tt / 256), .int .u8 (x.tt % 256), .int .u8 x.dO, .int .u8 0]) un55 zs5 rfl rfl (by simp [Value.cells]) (by decide) (by decide)) rfl ?_
      intro b58
      refine WL.to (To.append sl55 rfl rfl (by repeat (first | exact Take1.head | apply Take1.tail)) (Reads.of (RdOf.blk (size := 1) (n := 11) (cs := ints .u8 [x.acc, 0, 0, x.fr / 256, x.fr % 256, 0, 0, x.tt / 256, x.tt % 256, x.dO, 0]) (cs' := ints .u8 [x.acc, 0, 0, x.fr / 256, x.fr % 256, 0, 0, x.tt / 256, x.tt % 256, x.dO, 0]) (Nat.le_refl _) (by unfold maxLen; omega) (by simp [ints]) rfl) (by repeat (first | exact Take1.head | apply Take1.tail))) (ints_one _ _) (show (polO p i).length + 11 = (polO p (i + 1)).length by omega) (show ints .u8 (polO p i) ++ ints .u8 [x.acc, 0, 0, x.fr / 256, x.fr % 256, 0, 0, x.tt / 256, x.tt % 256, x.dO, 0] = ints .u8 (polO p (i + 1)) by rw [hnx, g35, ints_append]; rfl) (by unfold maxLen; omega) (by omega)) rfl ?_
      rintro ⟨⟨ao59, c59⟩, hc59⟩
      dsimp only at hc59 ⊢
      refine WL.y (Yl.assign rfl) rfl ?_
      refine WL.nil ?_
      refine WC.region ?_
      refine WL.y (Yl.move rfl) rfl ?_
      refine WL.y (Yl.add rfl rfl (IntWalk.i64_in _ (by omega))) rfl ?_
      refine WL.y (Yl.assign rfl) rfl ?_
      refine WL.nil ?_
      exact ⟨rfl, (i + 1, ao59, c59), by dsimp only; omega, by dsimp only; omega, (by repeat (first | exact Sub.nil | refine Sub.cons rfl ?_)), _, (by repeat (first | exact TakeL.nil | (apply TakeL.cons; · repeat (first | exact Take1.head | apply Take1.tail))))⟩
  · refine WC.exit ?_
    refine WC.seq ?_
    refine WC.region ?_
    refine WL.y (Yl.move rfl) rfl ?_
    refine WL.y (Yl.assign rfl) rfl ?_
    refine WL.nil ?_
    refine WC.ret ?_
    repeat (first | (with_reducible refine peelT ?_) | (with_reducible refine peelB ?_) | (with_reducible refine peelTX ?_) | (with_reducible refine peelBX ?_) | (with_reducible refine peelBN ?_) | (with_reducible refine peelBO rfl ?_))
    have e : i = p.rl.length := by omega
    subst e
    rw [polO_end hln]
    exact ret1 (.inr rfl) Try.results58 rfl fun w' h => ⟨(ao3, c3), trivial, rfl, h.sub (by repeat (first | exact TakeL.nil | (apply TakeL.cons; · repeat (first | exact Take1.head | apply Take1.tail))))⟩
end Go.Proofs.Ytnlibngncicobaa
