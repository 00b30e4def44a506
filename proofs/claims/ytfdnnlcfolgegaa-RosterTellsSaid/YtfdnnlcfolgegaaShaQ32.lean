/- The reference's sum: the walk, of words of 32 bits. -/
import Derived.Test.YtfdnnlcfolgegaaShaR
import Derived.Test.YtfdnnlcfolgegaaShaD
import Derived.Test.YtfdnnlcfolgegaaShaO32
namespace Go.Proofs.Ytfdnnlcfolgegaa
open Go Go.RowKit

set_option maxRecDepth 100000 in
theorem rsum32_any (bs : List Int) (v : Value) (hl : bs.length ≤ 100000) (w : World) (hx : RdS w (fpL []) v 1 bs.length (ints .u8 bs)) (hw : OK w (fpL []) [] w) :
    Fn Try.prog 51 [v, .int .i64 32] [] w (fun _ : Option Addr × Nat => True) (fun y => .slice y.1 (8 * 4) y.2) (fun y => [ownR (.slice y.1 (8 * 4) y.2) 5 1 (8 * 4) (ints .u8 (rsumF 32 4 64 4294967296 bs))]) := by
  obtain ⟨al, cl, rfl, hcl, hml⟩ := hx.rd.form
  have hz : zeroN 4 bs.length = (64 - (bs.length + 1 + 8) % 64) % 64 := rfl
  have hpl : (rpadF 4 bs).length = bs.length + 1 + zeroN 4 bs.length + 8 := by simp [rpadF, rlnF_len]; omega
  obtain ⟨P, hP⟩ : ∃ P, rpadF 4 bs = P := ⟨_, rfl⟩
  rw [hP] at hpl
  have hPm : P.length % 64 = 0 := by omega
  have hPb : P.length ≤ 200000 := by omega
  refine enterF Try.func51 rfl Try.ntmps51 rfl hw ?_
  refine WC.seq ?_
  refine WC.region ?_
  refine WL.y (Yl.assign rfl) rfl ?_ -- t4
  refine WL.nil ?_
  refine WC.seq ?_
  refine WC.region ?_
  refine WL.y (Yl.assign rfl) rfl ?_ -- t5
  refine WL.nil ?_
  refine WC.seq ?_
  refine WC.seq ?_
  refine WC.region ?_
  refine WL.y (Yl.move rfl) rfl ?_ -- t23
  refine WL.y (Yl.eql rfl rfl) rfl ?_ -- t24
  refine WL.nil ?_
  refine WC.condT rfl (by first | rfl | (simp; done) | (simp; omega)) ?_
  refine WC.region ?_
  refine WL.y (Yl.assign rfl) rfl ?_ -- t5
  refine WL.nil ?_
  refine WC.seq ?_
  refine WC.region ?_
  refine WL.callC (xs := []) (cap := []) rfl rfl en65 (by repeat (first | exact TakeL.nil | (apply TakeL.cons; · repeat (first | exact Take1.head | apply Take1.tail)))) (fun w hw => rfirst_any w hw.left.here) rfl ?_ -- t25 hailer/hailerref01.First
  rintro b25 -
  refine WL.y (Yl.assign rfl) rfl ?_ -- t6
  refine WL.nil ?_
  refine WC.seq ?_
  refine WC.region ?_
  refine WL.callC (xs := []) (cap := []) rfl rfl en66 (by repeat (first | exact TakeL.nil | (apply TakeL.cons; · repeat (first | exact Take1.head | apply Take1.tail)))) (fun w hw => rconsts_any w hw.left.here) rfl ?_ -- t26 hailer/hailerref01.Constants
  rintro b26 -
  refine WL.y (Yl.assign rfl) rfl ?_ -- t7
  refine WL.nil ?_
  refine WC.seq ?_
  refine WC.region ?_
  refine WL.y (Yl.move rfl) rfl ?_ -- t27
  refine WL.y (Yl.sub rfl rfl (IntWalk.i64_in _ (by omega))) rfl ?_ -- t28
  refine WL.callC (xs := [.tmp 28]) (cap := []) rfl rfl en67 (by repeat (first | exact TakeL.nil | (apply TakeL.cons; · repeat (first | exact Take1.head | apply Take1.tail)))) (fun w hw => power_any 32 (by omega) w hw.left.here) rfl ?_ -- t29 hailer/hailerref01.power
  rintro ⟨⟩ -
  refine WL.y (Yl.assign rfl) rfl ?_ -- t8
  refine WL.nil ?_
  refine WC.seq ?_
  refine WC.seq ?_
  refine WC.region ?_
  refine WL.y (Yl.move rfl) rfl ?_ -- t30
  refine WL.y (Yl.eql rfl rfl) rfl ?_ -- t31
  refine WL.nil ?_
  refine WC.condF rfl (by first | rfl | (simp; done) | (simp; omega)) ?_
  refine WC.skip ?_
  refine WC.seq ?_
  refine WC.seq ?_
  refine WC.region ?_
  refine WL.y (Yl.assign rfl) rfl ?_ -- t9
  refine WL.nil ?_
  refine WC.block ?_
  refine WC.loop (α := Nat) (fun i => [(0, .slice al bs.length cl), (1, .int .i64 32), (5, .int .i64 64), (6, .slice (some ⟨b25, 0, none⟩) 8 8), (7, .slice (some ⟨b26, 0, none⟩) 80 80), (8, .int .u64 4294967296), (9, .int .i64 (i : Int))]) (fun i => [ownR (.slice (some ⟨b25, 0, none⟩) 8 8) 24 1 8 (ints .u64 (rdnF 4294967296 first64 i)), ownR (.slice (some ⟨b26, 0, none⟩) 80 80) 24 1 80 (ints .u64 const64)]) (fun i => i ≤ 8) (fun i => 8 - i) 0 (Nat.zero_le _) ⟨(by repeat (first | exact Sub.nil | refine Sub.cons rfl ?_)), _, (by repeat (first | exact TakeL.nil | (apply TakeL.cons; · repeat (first | exact Take1.head | apply Take1.tail))))⟩ ?_
  intro i hi
  have hdl := rdnF_len 4294967296 first64 i
  rw [show first64.length = 8 from rfl] at hdl
  have hdw := rdnF_w (d := 4294967296) (by decide) ws_first i
  refine WC.seq ?_
  refine WC.seq ?_
  refine WC.region ?_
  refine WL.y (Yl.move rfl) rfl ?_ -- t32
  refine WL.y (Yl.lss rfl rfl) rfl ?_ -- t33
  refine WL.nil ?_
  refine WC.condD rfl (fun g33 => ?_) (fun g33 => ?_)
  · refine WC.skip ?_
    refine WC.seq ?_
    refine WC.block ?_
    refine WC.region ?_
    refine WL.y (Yl.move rfl) rfl ?_ -- t36
    refine WL.y (Yl.move rfl) rfl ?_ -- t37
    refine WL.y (Yl.move rfl) rfl ?_ -- t38
    refine WL.y (Yl.move rfl) rfl ?_ -- t39
    refine WL.y (Yl.index un97 sz24 rfl rfl (Reads.of RdOf.own (by repeat (first | exact Take1.head | apply Take1.tail))) rfl (by omega)) rfl ?_ -- t40
    refine WL.y (Yl.loadE on24 rfl (Reads.of RdOf.own (by repeat (first | exact Take1.head | apply Take1.tail))) (ints_get _ _ i (by omega))) rfl ?_ -- t41
    refine WL.y (Yl.move rfl) rfl ?_ -- t42
    refine WL.y (Yl.quo rfl rfl (by decide) (u64_quo (hdw.at i) (by decide))) rfl ?_
    refine WL.y (Yl.index un97 sz24 rfl rfl (Reads.of RdOf.own (by repeat (first | exact Take1.head | apply Take1.tail))) rfl (by omega)) rfl ?_ -- t44
    refine WL.sto (Sto.elem sz24 rfl rfl (by repeat (first | exact Take1.head | apply Take1.tail)) rfl (by omega) (by rfl)) (fun _ h => nomatch h) ?_ -- st 1
    refine WL.nil ?_
    refine WC.region ?_
    refine WL.y (Yl.move rfl) rfl ?_ -- t34
    refine WL.y (Yl.add rfl rfl (IntWalk.i64_in _ (by omega))) rfl ?_ -- t35
    refine WL.y (Yl.assign rfl) rfl ?_ -- t9
    refine WL.nil ?_
    rw [ints_set]
    exact ⟨rfl, i + 1, by omega, by omega, (by repeat (first | exact Sub.nil | refine Sub.cons rfl ?_)), _, (by repeat (first | exact TakeL.nil | (apply TakeL.cons; · repeat (first | exact Take1.head | apply Take1.tail))))⟩
  · refine WC.exit ?_
    refine WC.seq ?_
    refine WC.region ?_
    have hi8 : i = 8 := by omega
    subst hi8
    obtain ⟨H0, hH0⟩ : ∃ H0, rdnF 4294967296 first64 8 = H0 := ⟨_, rfl⟩
    rw [hH0] at hdl hdw ⊢
    refine WL.y (Yl.move rfl) rfl ?_ -- t45
    refine WL.y (Yl.move rfl) rfl ?_ -- t46
    refine WL.callC (xs := [.tmp 45, .tmp 46]) (cap := []) rfl rfl en68 (by repeat (first | exact TakeL.nil | (apply TakeL.cons; · repeat (first | exact Take1.head | apply Take1.tail)))) (fun w hw => padded32_any bs _ hl w (hw.srcS (A := []) hx) hw.left.here) rfl ?_ -- t47 hailer/hailerref01.padded
    rintro ⟨pa, pc⟩ -
    dsimp only
    rw [hP]
    refine WL.y (Yl.assign rfl) rfl ?_ -- t10
    refine WL.nil ?_
    refine WC.seq ?_
    refine WC.seq ?_
    refine WC.region ?_
    refine WL.y (Yl.assign rfl) rfl ?_ -- t11
    refine WL.nil ?_
    refine WC.block ?_
    refine WC.loop (α := Nat) (fun q => [(1, .int .i64 32), (5, .int .i64 64), (6, .slice (some ⟨b25, 0, none⟩) 8 8), (7, .slice (some ⟨b26, 0, none⟩) 80 80), (8, .int .u64 4294967296), (10, .slice pa P.length pc), (11, .int .i64 ((q * 64 : Nat) : Int))]) (fun q => [ownR (.slice (some ⟨b25, 0, none⟩) 8 8) 24 1 8 (ints .u64 (rbkF 32 4 64 4294967296 H0 P q)), ownR (.slice (some ⟨b26, 0, none⟩) 80 80) 24 1 80 (ints .u64 const64), ownR (.slice pa P.length pc) 5 1 P.length (ints .u8 P)]) (fun q => q * 64 ≤ P.length) (fun q => P.length - q * 64) 0 (by simp) ⟨(by repeat (first | exact Sub.nil | refine Sub.cons rfl ?_)), _, (by repeat (first | exact TakeL.nil | (apply TakeL.cons; · repeat (first | exact Take1.head | apply Take1.tail))))⟩ ?_
    intro q hq
    have hbl := rbkF_len (bt := 32) (z := 4) (n := 64) (d := 4294967296) (H := H0) (all := P) q
    rw [hdl] at hbl
    have hbw := rbkF_w (bt := 32) (z := 4) (n := 64) (d := 4294967296) (H := H0) (all := P) hdw q
    refine WC.seq ?_
    refine WC.seq ?_
    refine WC.region ?_
    refine WL.y (Yl.move rfl) rfl ?_ -- t48
    refine WL.y (Yl.move rfl) rfl ?_ -- t49
    refine WL.y (Yl.len un53 rfl) rfl ?_ -- t50
    refine WL.y (Yl.lss rfl rfl) rfl ?_ -- t51
    refine WL.nil ?_
    refine WC.condD rfl (fun g51 => ?_) (fun g51 => ?_)
    · refine WC.skip ?_
      refine WC.seq ?_
      refine WC.block ?_
      refine WC.seq ?_
      refine WC.region ?_
      refine WL.y (Yl.assign rfl) rfl ?_ -- t12
      refine WL.nil ?_
      refine WC.seq ?_
      refine WC.seq ?_
      refine WC.region ?_
      refine WL.y (Yl.assign rfl) rfl ?_ -- t13
      refine WL.nil ?_
      refine WC.block ?_
      have hq2 : q * 64 + 64 ≤ P.length := by omega
      obtain ⟨Hq, hHq⟩ : ∃ Hq, rbkF 32 4 64 4294967296 H0 P q = Hq := ⟨_, rfl⟩
      rw [hHq] at hbl hbw ⊢
      refine WC.view (fun w h => h.addNil 24 1) ?_
      refine WC.loop (α := Nat × (Option Addr × Nat)) (fun p => [(1, .int .i64 32), (5, .int .i64 64), (6, .slice (some ⟨b25, 0, none⟩) 8 8), (7, .slice (some ⟨b26, 0, none⟩) 80 80), (8, .int .u64 4294967296), (10, .slice pa P.length pc), (11, .int .i64 ((q * 64 : Nat) : Int)), (12, .slice p.2.1 p.1 p.2.2), (13, .int .i64 (p.1 : Int))]) (fun p => [ownR (.slice p.2.1 p.1 p.2.2) 24 1 p.1 (ints .u64 (rwF 4 P (q * 64) p.1)), ownR (.slice (some ⟨b25, 0, none⟩) 8 8) 24 1 8 (ints .u64 Hq), ownR (.slice (some ⟨b26, 0, none⟩) 80 80) 24 1 80 (ints .u64 const64), ownR (.slice pa P.length pc) 5 1 P.length (ints .u8 P)]) (fun p => p.1 ≤ 16) (fun p => 16 - p.1) (0, none, 0) (by simp) ⟨(by repeat (first | exact Sub.nil | refine Sub.cons rfl ?_)), _, (by repeat (first | exact TakeL.nil | (apply TakeL.cons; · repeat (first | exact Take1.head | apply Take1.tail))))⟩ ?_
      rintro ⟨t, wo, wc⟩ ht
      dsimp only at ht ⊢
      refine WC.seq ?_
      refine WC.seq ?_
      refine WC.region ?_
      refine WL.y (Yl.move rfl) rfl ?_ -- t56
      refine WL.y (Yl.lss rfl rfl) rfl ?_ -- t57
      refine WL.nil ?_
      refine WC.condD rfl (fun g57 => ?_) (fun g57 => ?_)
      · refine WC.skip ?_
        refine WC.seq ?_
        refine WC.block ?_
        refine WC.seq ?_
        refine WC.region ?_
        refine WL.y (Yl.assign rfl) rfl ?_ -- t14
        refine WL.nil ?_
        refine WC.seq ?_
        refine WC.seq ?_
        refine WC.region ?_
        refine WL.y (Yl.assign rfl) rfl ?_ -- t15
        refine WL.nil ?_
        refine WC.block ?_
        refine WC.loop (α := Nat) (fun i => [(1, .int .i64 32), (5, .int .i64 64), (6, .slice (some ⟨b25, 0, none⟩) 8 8), (7, .slice (some ⟨b26, 0, none⟩) 80 80), (8, .int .u64 4294967296), (10, .slice pa P.length pc), (11, .int .i64 ((q * 64 : Nat) : Int)), (12, .slice wo t wc), (13, .int .i64 (t : Int)), (14, .int .u64 (rxF P (q * 64 + t * 4) i)), (15, .int .i64 (i : Int))]) (fun i => [ownR (.slice wo t wc) 24 1 t (ints .u64 (rwF 4 P (q * 64) t)), ownR (.slice (some ⟨b25, 0, none⟩) 8 8) 24 1 8 (ints .u64 Hq), ownR (.slice (some ⟨b26, 0, none⟩) 80 80) 24 1 80 (ints .u64 const64), ownR (.slice pa P.length pc) 5 1 P.length (ints .u8 P)]) (fun i => i ≤ 4) (fun i => 4 - i) 0 (Nat.zero_le _) ⟨(by repeat (first | exact Sub.nil | refine Sub.cons rfl ?_)), _, (by repeat (first | exact TakeL.nil | (apply TakeL.cons; · repeat (first | exact Take1.head | apply Take1.tail))))⟩ ?_
        intro i hi
        refine WC.seq ?_
        refine WC.seq ?_
        refine WC.region ?_
        refine WL.y (Yl.move rfl) rfl ?_ -- t60
        refine WL.y (Yl.move rfl) rfl ?_ -- t61
        refine WL.y (Yl.quo rfl rfl (by omega) (i64_quo (by omega) (by omega))) rfl ?_ -- t62
        refine WL.y (Yl.lss rfl rfl) rfl ?_ -- t63
        refine WL.nil ?_
        refine WC.condD rfl (fun g63 => ?_) (fun g63 => ?_)
        · refine WC.skip ?_
          refine WC.seq ?_
          refine WC.block ?_
          refine WC.region ?_
          refine WL.y (Yl.move rfl) rfl ?_ -- t66
          refine WL.y (Yl.mul rfl rfl rfl) rfl ?_ -- t67
          refine WL.y (Yl.move rfl) rfl ?_ -- t68
          refine WL.y (Yl.move rfl) rfl ?_ -- t69
          refine WL.y (Yl.move rfl) rfl ?_ -- t70
          refine WL.y (Yl.move rfl) rfl ?_ -- t71
          refine WL.y (Yl.mul rfl rfl (IntWalk.i64_in _ (by omega))) rfl ?_ -- t72
          refine WL.y (Yl.quo rfl rfl (by omega) (i64_quo (by omega) (by omega))) rfl ?_ -- t73
          refine WL.y (Yl.add rfl rfl (IntWalk.i64_in _ (by omega))) rfl ?_ -- t74
          refine WL.y (Yl.move rfl) rfl ?_ -- t75
          refine WL.y (Yl.add rfl rfl (IntWalk.i64_in _ (by omega))) rfl ?_ -- t76
          refine WL.say (t := 76) (v' := .int .i64 ((q * 64 + t * 4 + i : Nat) : Int)) rfl (by (refine congrArg _ ?_; omega)) ?_
          refine WL.y (Yl.index un53 sz5 rfl rfl (Reads.of RdOf.own (by repeat (first | exact Take1.head | apply Take1.tail))) rfl (by omega)) rfl ?_ -- t77
          refine WL.y (Yl.loadE on5 rfl (Reads.of RdOf.own (by repeat (first | exact Take1.head | apply Take1.tail))) (ints_get .u8 P (q * 64 + t * 4 + i) (by omega))) rfl ?_ -- t78
          refine WL.y (Yl.conv un5 un24 rfl rfl) rfl ?_ -- t79
          refine WL.y (Yl.add rfl rfl rfl) rfl ?_ -- t80
          refine WL.y (Yl.assign rfl) rfl ?_ -- t14
          refine WL.nil ?_
          refine WC.region ?_
          refine WL.y (Yl.move rfl) rfl ?_ -- t64
          refine WL.y (Yl.add rfl rfl (IntWalk.i64_in _ (by omega))) rfl ?_ -- t65
          refine WL.y (Yl.assign rfl) rfl ?_ -- t15
          refine WL.nil ?_
          exact ⟨rfl, i + 1, by omega, by omega, (by repeat (first | exact Sub.nil | refine Sub.cons rfl ?_)), _, (by repeat (first | exact TakeL.nil | (apply TakeL.cons; · repeat (first | exact Take1.head | apply Take1.tail))))⟩
        · refine WC.exit ?_
          refine WC.region ?_
          have hi8 : i = 4 := by omega
          subst hi8
          refine WL.y (Yl.move rfl) rfl ?_ -- t81
          refine WL.y (Yl.move rfl) rfl ?_ -- t82
          refine WL.to (To.buildSlice (vs := [.int .u64 (rxF P (q * 64 + t * 4) 4)]) un97 zs24 rfl rfl (by simp [Value.cells]) (by decide) (by decide)) rfl ?_ -- t83
          intro b83
          refine WL.to (To.append sl97 rfl rfl (by repeat (first | exact Take1.head | apply Take1.tail)) (Reads.of (RdOf.blk (size := 1) (cs := [.int .u64 (rxF P (q * 64 + t * 4) 4)]) (cs' := [.int .u64 (rxF P (q * 64 + t * 4) 4)]) (Nat.le_refl _) (by unfold maxLen; omega) (by simp) rfl) (by repeat (first | exact Take1.head | apply Take1.tail))) (by intro v hv; rw [List.mem_singleton.1 hv]; rfl) rfl (show _ = ints .u64 (rwF 4 P (q * 64) (t + 1)) by rw [ints_snoc, rwF_succ]) (by unfold maxLen; omega) (by omega)) rfl ?_ -- t84
          rintro ⟨⟨ao84, c84⟩, hc84⟩
          dsimp only at hc84 ⊢
          refine WL.y (Yl.assign rfl) rfl ?_ -- t12
          refine WL.nil ?_
          refine WC.region ?_
          refine WL.y (Yl.move rfl) rfl ?_ -- t58
          refine WL.y (Yl.add rfl rfl (IntWalk.i64_in _ (by omega))) rfl ?_ -- t59
          refine WL.y (Yl.assign rfl) rfl ?_ -- t13
          refine WL.nil ?_
          exact ⟨rfl, (t + 1, ao84, c84), by dsimp only; omega, by dsimp only; omega, (by repeat (first | exact Sub.nil | refine Sub.cons rfl ?_)), _, (by repeat (first | exact TakeL.nil | (apply TakeL.cons; · repeat (first | exact Take1.head | apply Take1.tail))))⟩
      · refine WC.exit ?_
        refine WC.seq ?_
        refine WC.seq ?_
        refine WC.region ?_
        refine WL.y (Yl.assign rfl) rfl ?_ -- t16
        refine WL.nil ?_
        refine WC.block ?_
        have ht16 : t = 16 := by omega
        subst ht16
        obtain ⟨ws, hws⟩ : ∃ ws, rwF 4 P (q * 64) 16 = ws := ⟨_, rfl⟩
        have hwl : ws.length = 16 := by rw [← hws, rwF_len]
        have hww : WS ws := by rw [← hws]; exact rwF_w 16
        rw [hws]
        refine WC.loop (α := Nat × (Option Addr × Nat)) (fun p => [(1, .int .i64 32), (5, .int .i64 64), (6, .slice (some ⟨b25, 0, none⟩) 8 8), (7, .slice (some ⟨b26, 0, none⟩) 80 80), (8, .int .u64 4294967296), (10, .slice pa P.length pc), (11, .int .i64 ((q * 64 : Nat) : Int)), (12, .slice p.2.1 (16 + p.1) p.2.2), (16, .int .i64 ((16 + p.1 : Nat) : Int))]) (fun p => [ownR (.slice p.2.1 (16 + p.1) p.2.2) 24 1 (16 + p.1) (ints .u64 (rexF 32 ws p.1)), ownR (.slice (some ⟨b25, 0, none⟩) 8 8) 24 1 8 (ints .u64 Hq), ownR (.slice (some ⟨b26, 0, none⟩) 80 80) 24 1 80 (ints .u64 const64), ownR (.slice pa P.length pc) 5 1 P.length (ints .u8 P)]) (fun p => p.1 ≤ 64 - 16) (fun p => 64 - 16 - p.1) (0, wo, wc) (Nat.zero_le _) ⟨(by repeat (first | exact Sub.nil | refine Sub.cons rfl ?_)), _, (by repeat (first | exact TakeL.nil | (apply TakeL.cons; · repeat (first | exact Take1.head | apply Take1.tail))))⟩ ?_
        rintro ⟨j, wo, wc⟩ hj
        dsimp only at hj ⊢
        have hel := rexF_len 32 ws j
        rw [hwl] at hel
        have hew := rexF_w (bt := 32) hww j
        refine WC.seq ?_
        refine WC.seq ?_
        refine WC.region ?_
        refine WL.y (Yl.move rfl) rfl ?_ -- t85
        refine WL.y (Yl.move rfl) rfl ?_ -- t86
        refine WL.y (Yl.lss rfl rfl) rfl ?_ -- t87
        refine WL.nil ?_
        refine WC.condD rfl (fun g87 => ?_) (fun g87 => ?_)
        · refine WC.skip ?_
          refine WC.seq ?_
          refine WC.block ?_
          refine WC.drawI (Hs := [rdR (.slice wo (16 + j) wc) 1 (16 + j) (ints .u64 (rexF 32 ws j))]) mixed (by kernel_rfl) (ownI (by repeat (first | exact Take1.head | apply Take1.tail))) ?_
          refine WD.take 0 rfl (by kernel_rfl) (by kernel_rfl) (by kernel_rfl) rfl rfl (Yl.move rfl) rfl ?_ -- t90
          refine WD.take 1 rfl (by kernel_rfl) (by kernel_rfl) (by kernel_rfl) rfl rfl (Yl.move rfl) rfl ?_ -- t91
          refine WD.take 2 rfl (by kernel_rfl) (by kernel_rfl) (by kernel_rfl) rfl rfl (Yl.move rfl) rfl ?_ -- t92
          refine WD.take 3 rfl (by kernel_rfl) (by kernel_rfl) (by kernel_rfl) rfl rfl (Yl.sub rfl rfl (IntWalk.i64_in _ (by omega))) rfl ?_ -- t93
          refine WD.take 4 rfl (by kernel_rfl) (by kernel_rfl) (by kernel_rfl) rfl rfl (Yl.index (j := 14 + j) un97 sz24 rfl rfl (Reads.of RdOf.rd' (by repeat (first | exact Take1.head | apply Take1.tail))) (by omega) (by omega)) rfl ?_
          refine WD.take 5 rfl (by kernel_rfl) (by kernel_rfl) (by kernel_rfl) rfl rfl (Yl.loadE on24 rfl (Reads.of RdOf.rd' (by repeat (first | exact Take1.head | apply Take1.tail))) (ints_get _ _ (14 + j) (by omega))) rfl ?_
          refine WD.take 6 rfl (by kernel_rfl) (by kernel_rfl) (by kernel_rfl) rfl rfl (Yl.move rfl) rfl ?_ -- t96
          refine WD.take 8 rfl (by kernel_rfl) (by kernel_rfl) (by kernel_rfl) rfl rfl (Yl.move rfl) rfl ?_ -- t98
          refine WD.take 9 rfl (by kernel_rfl) (by kernel_rfl) (by kernel_rfl) rfl rfl (Yl.move rfl) rfl ?_ -- t99
          refine WD.take 10 rfl (by kernel_rfl) (by kernel_rfl) (by kernel_rfl) rfl rfl (Yl.sub rfl rfl (IntWalk.i64_in _ (by omega))) rfl ?_ -- t100
          refine WD.take 11 rfl (by kernel_rfl) (by kernel_rfl) (by kernel_rfl) rfl rfl (Yl.index (j := 9 + j) un97 sz24 rfl rfl (Reads.of RdOf.rd' (by repeat (first | exact Take1.head | apply Take1.tail))) (by omega) (by omega)) rfl ?_
          refine WD.take 12 rfl (by kernel_rfl) (by kernel_rfl) (by kernel_rfl) rfl rfl (Yl.loadE on24 rfl (Reads.of RdOf.rd' (by repeat (first | exact Take1.head | apply Take1.tail))) (ints_get _ _ (9 + j) (by omega))) rfl ?_
          refine WD.take 14 rfl (by kernel_rfl) (by kernel_rfl) (by kernel_rfl) rfl rfl (Yl.move rfl) rfl ?_ -- t104
          refine WD.take 15 rfl (by kernel_rfl) (by kernel_rfl) (by kernel_rfl) rfl rfl (Yl.move rfl) rfl ?_ -- t105
          refine WD.take 16 rfl (by kernel_rfl) (by kernel_rfl) (by kernel_rfl) rfl rfl (Yl.sub rfl rfl (IntWalk.i64_in _ (by omega))) rfl ?_ -- t106
          refine WD.take 17 rfl (by kernel_rfl) (by kernel_rfl) (by kernel_rfl) rfl rfl (Yl.index (j := 1 + j) un97 sz24 rfl rfl (Reads.of RdOf.rd' (by repeat (first | exact Take1.head | apply Take1.tail))) (by omega) (by omega)) rfl ?_
          refine WD.take 18 rfl (by kernel_rfl) (by kernel_rfl) (by kernel_rfl) rfl rfl (Yl.loadE on24 rfl (Reads.of RdOf.rd' (by repeat (first | exact Take1.head | apply Take1.tail))) (ints_get _ _ (1 + j) (by omega))) rfl ?_
          refine WD.take 19 rfl (by kernel_rfl) (by kernel_rfl) (by kernel_rfl) rfl rfl (Yl.move rfl) rfl ?_ -- t109
          refine WD.take 22 rfl (by kernel_rfl) (by kernel_rfl) (by kernel_rfl) rfl rfl (Yl.move rfl) rfl ?_ -- t112
          refine WD.take 23 rfl (by kernel_rfl) (by kernel_rfl) (by kernel_rfl) rfl rfl (Yl.move rfl) rfl ?_ -- t113
          refine WD.take 24 rfl (by kernel_rfl) (by kernel_rfl) (by kernel_rfl) rfl rfl (Yl.sub rfl rfl (IntWalk.i64_in _ (by omega))) rfl ?_ -- t114
          refine WD.take 25 rfl (by kernel_rfl) (by kernel_rfl) (by kernel_rfl) rfl rfl (Yl.index (j := j) un97 sz24 rfl rfl (Reads.of RdOf.rd' (by repeat (first | exact Take1.head | apply Take1.tail))) (by omega) (by omega)) rfl ?_
          refine WD.take 26 rfl (by kernel_rfl) (by kernel_rfl) (by kernel_rfl) rfl rfl (Yl.loadE on24 rfl (Reads.of RdOf.rd' (by repeat (first | exact Take1.head | apply Take1.tail))) (ints_get _ _ j (by omega))) rfl ?_
          refine WD.take 28 rfl (by kernel_rfl) (by kernel_rfl) (by kernel_rfl) rfl rfl (Yl.move rfl) rfl ?_ -- t118
          refine WD.one 7 (by kernel_rfl) ?_
          refine WO.callCI (xs := [_, .tmp 95, .tmp 96]) (cap := []) rfl .no rfl rfl en70 (by repeat (first | exact TakeL.nil | (apply TakeL.cons; · repeat (first | exact Take1.head | apply Take1.tail)))) (fun w hw => four_any 3 _ (hew.at (14 + j)) 32 (by omega) w hw.left.here) rfl (fun _ => (ownI (by repeat (first | exact Take1.head | apply Take1.tail)))) ?_ -- t97 hailer/hailerref01.four
          rintro ⟨⟩ -
          refine WD.take 13 rfl (by kernel_rfl) (by kernel_rfl) (by kernel_rfl) rfl rfl (Yl.add rfl rfl rfl) rfl ?_ -- t103
          refine WD.one 20 (by kernel_rfl) ?_
          refine WO.callCI (xs := [_, .tmp 108, .tmp 109]) (cap := []) rfl .no rfl rfl en70 (by repeat (first | exact TakeL.nil | (apply TakeL.cons; · repeat (first | exact Take1.head | apply Take1.tail)))) (fun w hw => four_any 2 _ (hew.at (1 + j)) 32 (by omega) w hw.left.here) rfl (fun _ => (ownI (by repeat (first | exact Take1.head | apply Take1.tail)))) ?_ -- t110 hailer/hailerref01.four
          rintro ⟨⟩ -
          refine WD.take 21 rfl (by kernel_rfl) (by kernel_rfl) (by kernel_rfl) rfl rfl (Yl.add rfl rfl rfl) rfl ?_ -- t111
          refine WD.take 27 rfl (by kernel_rfl) (by kernel_rfl) (by kernel_rfl) rfl rfl (Yl.add rfl rfl rfl) rfl ?_ -- t117
          refine WD.one 29 (by kernel_rfl) ?_
          refine WO.callCI (xs := [.tmp 117, .tmp 118]) (cap := []) rfl .no rfl rfl en69 (by repeat (first | exact TakeL.nil | (apply TakeL.cons; · repeat (first | exact Take1.head | apply Take1.tail)))) (fun w hw => cut_any _ (u64_wrap _).1 32 (by omega) w hw.left.here) rfl (fun _ => (ownI (by repeat (first | exact Take1.head | apply Take1.tail)))) ?_ -- t119 hailer/hailerref01.cut
          rintro ⟨⟩ -
          refine WD.say (t := 119) (v' := .int .u64 (rmoreF 32 (rexF 32 ws j) j)) rfl (by rfl) ?_
          refine WD.one 30 (by kernel_rfl) ?_
          refine WO.toI rfl rfl .no (To.buildSlice (vs := [.int .u64 (rmoreF 32 (rexF 32 ws j) j)]) un97 zs24 rfl rfl (by intro v hv; rw [List.mem_singleton.1 hv]; rfl) (by decide) (by decide)) rfl (fun _ => ownI (by repeat (first | exact Take1.head | apply Take1.tail))) ?_
          intro b120
          refine WD.one 31 (by kernel_rfl) ?_
          refine WO.toI rfl rfl .no (To.appendT sl97 rfl rfl (by repeat (first | exact Take1.head | apply Take1.tail)) (Reads.of (RdOf.blk (size := 1) (cs := [.int .u64 (rmoreF 32 (rexF 32 ws j) j)]) (cs' := [.int .u64 (rmoreF 32 (rexF 32 ws j) j)]) (Nat.le_refl _) (by unfold maxLen; omega) (by simp) rfl) (by repeat (first | exact Take1.head | apply Take1.tail))) (by intro v hv; rw [List.mem_singleton.1 hv]; rfl) rfl (show _ = ints .u64 (rexF 32 ws (j + 1)) by rw [ints_snoc]; rfl) (by unfold maxLen; omega) (by omega)) rfl (fun _ => twinI (by repeat (first | exact Take1.head | apply Take1.tail))) ?_
          rintro ⟨⟨ao121, c121⟩, hc121⟩
          dsimp only at hc121 ⊢
          refine WD.view (fun w h => h.untwin (by repeat (first | exact Take1.head | apply Take1.tail))) ?_
          refine WD.take 32 rfl (by kernel_rfl) (by kernel_rfl) (by kernel_rfl) rfl rfl (Yl.assign rfl) rfl ?_ -- t12
          refine WD.done (by kernel_rfl) ?_
          refine WC.region ?_
          refine WL.y (Yl.move rfl) rfl ?_ -- t88
          refine WL.y (Yl.add rfl rfl (IntWalk.i64_in _ (by omega))) rfl ?_ -- t89
          refine WL.y (Yl.assign rfl) rfl ?_ -- t16
          refine WL.nil ?_
          exact ⟨rfl, (j + 1, ao121, c121), by dsimp only; omega, by dsimp only; omega, (by repeat (first | exact Sub.nil | refine Sub.cons rfl ?_)), _, (by repeat (first | exact TakeL.nil | (apply TakeL.cons; · repeat (first | exact Take1.head | apply Take1.tail))))⟩
        · refine WC.exit ?_
          refine WC.seq ?_
          refine WC.region ?_
          refine WL.to (To.buildSlice (vs := []) un97 zs24 rfl rfl (by simp) (by decide) (by decide)) rfl ?_
          intro b122
          rw [show flat [] = [] from rfl]
          refine WL.view (fun w h => h.blkOwn (b := b122) (size := 1) (n := 0) (by repeat (first | exact Take1.head | apply Take1.tail)) (by unfold maxLen; omega) rfl) ?_
          refine WL.y (Yl.move rfl) rfl ?_ -- t123
          refine WL.to (To.append sl97 rfl rfl (by repeat (first | exact Take1.head | apply Take1.tail)) (Reads.of RdOf.own (by repeat (first | exact Take1.head | apply Take1.tail))) (ints_one _ _) rfl (List.nil_append _) (by unfold maxLen; omega) (by omega)) rfl ?_ -- t124
          rintro ⟨⟨ao124, c124⟩, hc124⟩
          dsimp only at hc124 ⊢
          refine WL.y (Yl.assign rfl) rfl ?_ -- t17
          refine WL.nil ?_
          refine WC.seq ?_
          refine WC.seq ?_
          refine WC.region ?_
          refine WL.y (Yl.assign rfl) rfl ?_ -- t18
          refine WL.nil ?_
          refine WC.block ?_
          have hj2 : j = 64 - 16 := by omega
          subst hj2
          obtain ⟨W, hW⟩ : ∃ W, rexF 32 ws (64 - 16) = W := ⟨_, rfl⟩
          rw [hW] at hel hew ⊢
          refine WC.loop (α := Nat × (Option Addr × Nat)) (fun p => [(1, .int .i64 32), (5, .int .i64 64), (6, .slice (some ⟨b25, 0, none⟩) 8 8), (7, .slice (some ⟨b26, 0, none⟩) 80 80), (8, .int .u64 4294967296), (10, .slice pa P.length pc), (11, .int .i64 ((q * 64 : Nat) : Int)), (12, .slice wo (16 + (64 - 16)) wc), (17, .slice p.2.1 8 p.2.2), (18, .int .i64 (p.1 : Int))]) (fun p => [ownR (.slice p.2.1 8 p.2.2) 24 1 8 (ints .u64 (rrsF 32 4294967296 const64 W Hq p.1)), ownR (.slice wo (16 + (64 - 16)) wc) 24 1 (16 + (64 - 16)) (ints .u64 W), ownR (.slice (some ⟨b25, 0, none⟩) 8 8) 24 1 8 (ints .u64 Hq), ownR (.slice (some ⟨b26, 0, none⟩) 80 80) 24 1 80 (ints .u64 const64), ownR (.slice pa P.length pc) 5 1 P.length (ints .u8 P)]) (fun p => p.1 ≤ 64) (fun p => 64 - p.1) (0, ao124, c124) (Nat.zero_le _) ⟨(by repeat (first | exact Sub.nil | refine Sub.cons rfl ?_)), _, (by repeat (first | exact TakeL.nil | (apply TakeL.cons; · repeat (first | exact Take1.head | apply Take1.tail))))⟩ ?_
          rintro ⟨j6, vo, vc⟩ hj6
          dsimp only at hj6 ⊢
          have hrl := rrsF_len (bt := 32) (d := 4294967296) (ks := const64) (ws := W) hbl j6
          have hrw := rrsF_w (bt := 32) (d := 4294967296) (ks := const64) (ws := W) hbw j6
          refine WC.seq ?_
          refine WC.seq ?_
          refine WC.region ?_
          refine WL.y (Yl.move rfl) rfl ?_ -- t125
          refine WL.y (Yl.move rfl) rfl ?_ -- t126
          refine WL.y (Yl.lss rfl rfl) rfl ?_ -- t127
          refine WL.nil ?_
          refine WC.condD rfl (fun g127 => ?_) (fun g127 => ?_)
          · refine WC.skip ?_
            refine WC.seq ?_
            refine WC.block ?_
            refine WC.drawAny (Hs := [ownR (.slice vo 8 vc) 24 1 8 (ints .u64 (rrsF 32 4294967296 const64 W Hq j6)), ownR (.slice wo (16 + (64 - 16)) wc) 24 1 (16 + (64 - 16)) (ints .u64 W), ownR (.slice (some ⟨b26, 0, none⟩) 80 80) 24 1 80 (ints .u64 const64)]) mixed (by kernel_rfl) ⟨_, (by repeat (first | exact TakeL.nil | (apply TakeL.cons; · repeat (first | exact Take1.head | apply Take1.tail))))⟩ ?_
            refine WD.take 0 rfl (by kernel_rfl) (by kernel_rfl) (by kernel_rfl) rfl rfl (Yl.move rfl) rfl ?_ -- t130
            refine WD.take 1 rfl (by kernel_rfl) (by kernel_rfl) (by kernel_rfl) rfl rfl (Yl.move rfl) rfl ?_ -- t131
            refine WD.take 2 rfl (by kernel_rfl) (by kernel_rfl) (by kernel_rfl) rfl rfl (Yl.move rfl) rfl ?_ -- t132
            refine WD.take 3 rfl (by kernel_rfl) (by kernel_rfl) (by kernel_rfl) rfl rfl (Yl.index un97 sz24 rfl rfl (Reads.of RdOf.own (by repeat (first | exact Take1.head | apply Take1.tail))) rfl (by omega)) rfl ?_ -- t133
            refine WD.take 4 rfl (by kernel_rfl) (by kernel_rfl) (by kernel_rfl) rfl rfl (Yl.loadE on24 rfl (Reads.of RdOf.own (by repeat (first | exact Take1.head | apply Take1.tail))) (ints_get _ const64 j6 (Nat.lt_of_lt_of_le (by omega : j6 < 80) (leN rfl)))) rfl ?_ -- t134
            refine WD.take 5 rfl (by kernel_rfl) (by kernel_rfl) (by kernel_rfl) rfl rfl (Yl.move rfl) rfl ?_ -- t135
            refine WD.take 6 rfl (by kernel_rfl) (by kernel_rfl) (by kernel_rfl) rfl rfl (Yl.quo rfl rfl (by decide) (u64_quo (ws_const.at j6) (by decide))) rfl ?_
            refine WD.take 7 rfl (by kernel_rfl) (by kernel_rfl) (by kernel_rfl) rfl rfl (Yl.move rfl) rfl ?_ -- t137
            refine WD.take 8 rfl (by kernel_rfl) (by kernel_rfl) (by kernel_rfl) rfl rfl (Yl.move rfl) rfl ?_ -- t138
            refine WD.take 9 rfl (by kernel_rfl) (by kernel_rfl) (by kernel_rfl) rfl rfl (Yl.index un97 sz24 rfl rfl (Reads.of RdOf.own (by repeat (first | exact Take1.head | apply Take1.tail))) rfl (by omega)) rfl ?_ -- t139
            refine WD.take 10 rfl (by kernel_rfl) (by kernel_rfl) (by kernel_rfl) rfl rfl (Yl.loadE on24 rfl (Reads.of RdOf.own (by repeat (first | exact Take1.head | apply Take1.tail))) (ints_get _ W j6 (by omega))) rfl ?_ -- t140
            refine WD.take 11 rfl (by kernel_rfl) (by kernel_rfl) (by kernel_rfl) rfl rfl (Yl.move rfl) rfl ?_ -- t141
            refine WD.one 12 (by kernel_rfl) ?_
            refine WO.callC (xs := [.tmp 130, .tmp 136, .tmp 140, .tmp 141]) (cap := []) rfl .no rfl rfl en71 (by repeat (first | exact TakeL.nil | (apply TakeL.cons; · repeat (first | exact Take1.head | apply Take1.tail)))) (fun w hw => round_any 32 (by omega) _ _ _ _ hrl hrw w ((hw.src (A := []) RdOf.own (by repeat (first | exact Take1.head | apply Take1.tail)))) hw.left.here) rfl (fun _ => ⟨_, (by repeat (first | exact TakeL.nil | (apply TakeL.cons; · repeat (first | exact Take1.head | apply Take1.tail))))⟩) ?_ -- t142 hailer/hailerref01.round
            rintro b142 -
            refine WD.take 13 rfl (by kernel_rfl) (by kernel_rfl) (by kernel_rfl) rfl rfl (Yl.assign rfl) rfl ?_ -- t17
            refine WD.done (by kernel_rfl) ?_
            refine WC.region ?_
            refine WL.y (Yl.move rfl) rfl ?_ -- t128
            refine WL.y (Yl.add rfl rfl (IntWalk.i64_in _ (by omega))) rfl ?_ -- t129
            refine WL.y (Yl.assign rfl) rfl ?_ -- t18
            refine WL.nil ?_
            exact ⟨rfl, (j6 + 1, some ⟨b142, 0, none⟩, 8), by dsimp only; omega, by dsimp only; omega, (by repeat (first | exact Sub.nil | refine Sub.cons rfl ?_)), _, (by repeat (first | exact TakeL.nil | (apply TakeL.cons; · repeat (first | exact Take1.head | apply Take1.tail))))⟩
          · refine WC.exit ?_
            refine WC.seq ?_
            refine WC.region ?_
            refine WL.y (Yl.assign rfl) rfl ?_ -- t19
            refine WL.nil ?_
            refine WC.block ?_
            have hj7 : j6 = 64 := by omega
            subst hj7
            obtain ⟨V, hV⟩ : ∃ V, rrsF 32 4294967296 const64 W Hq 64 = V := ⟨_, rfl⟩
            rw [hV] at hrl hrw ⊢
            refine WC.loop (α := Nat) (fun i => [(1, .int .i64 32), (5, .int .i64 64), (6, .slice (some ⟨b25, 0, none⟩) 8 8), (7, .slice (some ⟨b26, 0, none⟩) 80 80), (8, .int .u64 4294967296), (10, .slice pa P.length pc), (11, .int .i64 ((q * 64 : Nat) : Int)), (17, .slice vo 8 vc), (19, .int .i64 (i : Int))]) (fun i => [ownR (.slice (some ⟨b25, 0, none⟩) 8 8) 24 1 8 (ints .u64 (radF 32 Hq V i)), ownR (.slice vo 8 vc) 24 1 8 (ints .u64 V), ownR (.slice (some ⟨b26, 0, none⟩) 80 80) 24 1 80 (ints .u64 const64), ownR (.slice pa P.length pc) 5 1 P.length (ints .u8 P)]) (fun i => i ≤ 8) (fun i => 8 - i) 0 (Nat.zero_le _) ⟨(by repeat (first | exact Sub.nil | refine Sub.cons rfl ?_)), _, (by repeat (first | exact TakeL.nil | (apply TakeL.cons; · repeat (first | exact Take1.head | apply Take1.tail))))⟩ ?_
            intro i hi
            have hal := radF_len 32 Hq V i
            rw [hbl] at hal
            refine WC.seq ?_
            refine WC.seq ?_
            refine WC.region ?_
            refine WL.y (Yl.move rfl) rfl ?_ -- t143
            refine WL.y (Yl.lss rfl rfl) rfl ?_ -- t144
            refine WL.nil ?_
            refine WC.condD rfl (fun g144 => ?_) (fun g144 => ?_)
            · refine WC.skip ?_
              refine WC.seq ?_
              refine WC.block ?_
              have hself := hole_self (k := .u64) (L := radF 32 Hq V i) (t := i) (by omega)
              refine WC.drawI (Hs := [holeR (.slice (some ⟨b25, 0, none⟩) 8 8) 24 8 (ints .u64 (radF 32 Hq V i)) i, ownR (.slice vo 8 vc) 24 1 8 (ints .u64 V)]) mixed (by kernel_rfl) (holeI2 (by repeat (first | exact Take1.head | apply Take1.tail)) (by first | exact hself | exact ⟨_, rfl⟩) (by repeat (first | exact Take1.head | apply Take1.tail))) ?_
              refine WD.take 0 rfl (by kernel_rfl) (by kernel_rfl) (by kernel_rfl) rfl rfl (Yl.move rfl) rfl ?_ -- t147
              refine WD.take 1 rfl (by kernel_rfl) (by kernel_rfl) (by kernel_rfl) rfl rfl (Yl.move rfl) rfl ?_ -- t148
              refine WD.take 2 rfl (by kernel_rfl) (by kernel_rfl) (by kernel_rfl) rfl rfl (Yl.move rfl) rfl ?_ -- t149
              refine WD.take 3 rfl (by kernel_rfl) (by kernel_rfl) (by kernel_rfl) rfl rfl (Yl.move rfl) rfl ?_ -- t150
              refine WD.take 4 rfl (by kernel_rfl) (by kernel_rfl) (by kernel_rfl) rfl rfl (Yl.indexV (j := i) un97 sz24 rfl rfl rfl (by omega)) rfl ?_
              refine WD.take 6 rfl (by kernel_rfl) (by kernel_rfl) (by kernel_rfl) rfl rfl (Yl.move rfl) rfl ?_ -- t153
              refine WD.take 7 rfl (by kernel_rfl) (by kernel_rfl) (by kernel_rfl) rfl rfl (Yl.move rfl) rfl ?_ -- t154
              refine WD.take 8 rfl (by kernel_rfl) (by kernel_rfl) (by kernel_rfl) rfl rfl (Yl.index un97 sz24 rfl rfl (Reads.of RdOf.own (by repeat (first | exact Take1.head | apply Take1.tail))) rfl (by omega)) rfl ?_ -- t155
              refine WD.take 9 rfl (by kernel_rfl) (by kernel_rfl) (by kernel_rfl) rfl rfl (Yl.loadE on24 rfl (Reads.of RdOf.own (by repeat (first | exact Take1.head | apply Take1.tail))) (ints_get _ V i (by omega))) rfl ?_ -- t156
              refine WD.take 11 rfl (by kernel_rfl) (by kernel_rfl) (by kernel_rfl) rfl rfl (Yl.move rfl) rfl ?_ -- t158
              refine WD.one 5 (by kernel_rfl) ?_
              refine WO.y rfl rfl .no (Yl.loadE on24 rfl (Reads.of RdOf.own (by repeat (first | exact Take1.head | apply Take1.tail))) (ints_get _ _ i (by omega))) rfl ?_ -- t152
              refine WD.take 10 rfl (by kernel_rfl) (by kernel_rfl) (by kernel_rfl) rfl rfl (Yl.add rfl rfl rfl) rfl ?_ -- t157
              refine WD.one 12 (by kernel_rfl) ?_
              refine WO.callCI (xs := [.tmp 157, .tmp 158]) (cap := []) rfl .no rfl rfl en69 (by repeat (first | exact TakeL.nil | (apply TakeL.cons; · repeat (first | exact Take1.head | apply Take1.tail)))) (fun w hw => cut_any _ (u64_wrap _).1 32 (by omega) w hw.left.here) rfl (fun _ => (holeI2 (by repeat (first | exact Take1.head | apply Take1.tail)) (by first | exact hself | exact ⟨_, rfl⟩) (by repeat (first | exact Take1.head | apply Take1.tail)))) ?_ -- t159 hailer/hailerref01.cut
              rintro ⟨⟩ -
              refine WD.take 13 rfl (by kernel_rfl) (by kernel_rfl) (by kernel_rfl) rfl rfl (Yl.indexV (j := i) un97 sz24 rfl rfl rfl (by omega)) rfl ?_
              refine WD.one 14 (by kernel_rfl) ?_
              refine WO.stoI rfl rfl .no (Sto.elem sz24 rfl rfl (by repeat (first | exact Take1.head | apply Take1.tail)) rfl (by omega) (by rfl)) (holeI2 (by repeat (first | exact Take1.head | apply Take1.tail)) (by first | exact hself | exact ⟨_, rfl⟩) (by repeat (first | exact Take1.head | apply Take1.tail))) ?_ -- st 2
              refine WD.done (by kernel_rfl) ?_
              refine WC.region ?_
              refine WL.y (Yl.move rfl) rfl ?_ -- t145
              refine WL.y (Yl.add rfl rfl (IntWalk.i64_in _ (by omega))) rfl ?_ -- t146
              refine WL.y (Yl.assign rfl) rfl ?_ -- t19
              refine WL.nil ?_
              rw [ints_set]
              exact ⟨rfl, i + 1, by omega, by omega, (by repeat (first | exact Sub.nil | refine Sub.cons rfl ?_)), _, (by repeat (first | exact TakeL.nil | (apply TakeL.cons; · repeat (first | exact Take1.head | apply Take1.tail))))⟩
            · refine WC.exit ?_
              refine WC.region ?_
              have hi8 : i = 8 := by omega
              subst hi8
              have hnew : rbkF 32 4 64 4294967296 H0 P (q + 1) = radF 32 Hq V 8 := by unfold rbkF rblockF; rw [hHq, hws, hW, hV]
              refine WL.y (Yl.move rfl) rfl ?_ -- t52
              refine WL.y (Yl.move rfl) rfl ?_ -- t53
              refine WL.y (Yl.mul rfl rfl (IntWalk.i64_in _ (by omega))) rfl ?_ -- t54
              refine WL.y (Yl.add rfl rfl (IntWalk.i64_in _ (by omega))) rfl ?_ -- t55
              refine WL.say (t := 55) (v' := .int .i64 (((q + 1) * 64 : Nat) : Int)) rfl (by (refine congrArg _ ?_; omega)) ?_
              refine WL.y (Yl.assign rfl) rfl ?_ -- t11
              refine WL.nil ?_
              refine ⟨rfl, q + 1, by omega, by omega, ?_⟩
              rw [hnew]
              exact ⟨(by repeat (first | exact Sub.nil | refine Sub.cons rfl ?_)), _, (by repeat (first | exact TakeL.nil | (apply TakeL.cons; · repeat (first | exact Take1.head | apply Take1.tail))))⟩
    · refine WC.exit ?_
      refine WC.seq ?_
      refine WC.region ?_
      refine WL.y (Yl.assign rfl) rfl ?_ -- t20
      refine WL.nil ?_
      refine WC.seq ?_
      refine WC.seq ?_
      refine WC.region ?_
      refine WL.y (Yl.assign rfl) rfl ?_ -- t21
      refine WL.nil ?_
      refine WC.block ?_
      obtain ⟨HH, hHH⟩ : ∃ HH, rbkF 32 4 64 4294967296 H0 P q = HH := ⟨_, rfl⟩
      rw [hHH] at hbl hbw ⊢
      refine WC.view (fun w h => h.addNil 5 1) ?_
      refine WC.loop (α := Nat × (Option Addr × Nat)) (fun p => [(1, .int .i64 32), (6, .slice (some ⟨b25, 0, none⟩) 8 8), (20, .slice p.2.1 (p.1 * 4) p.2.2), (21, .int .i64 (p.1 : Int))]) (fun p => [ownR (.slice p.2.1 (p.1 * 4) p.2.2) 5 1 (p.1 * 4) (ints .u8 (rdgF 4 (HH.take p.1))), ownR (.slice (some ⟨b25, 0, none⟩) 8 8) 24 1 8 (ints .u64 HH)]) (fun p => p.1 ≤ 8) (fun p => 8 - p.1) (0, none, 0) (by simp) ⟨(by repeat (first | exact Sub.nil | refine Sub.cons rfl ?_)), _, (by repeat (first | exact TakeL.nil | (apply TakeL.cons; · repeat (first | exact Take1.head | apply Take1.tail))))⟩ ?_
      rintro ⟨i8, oo, oc⟩ hi8
      dsimp only at hi8 ⊢
      refine WC.seq ?_
      refine WC.seq ?_
      refine WC.region ?_
      refine WL.y (Yl.move rfl) rfl ?_ -- t161
      refine WL.y (Yl.lss rfl rfl) rfl ?_ -- t162
      refine WL.nil ?_
      refine WC.condD rfl (fun g162 => ?_) (fun g162 => ?_)
      · refine WC.skip ?_
        refine WC.seq ?_
        refine WC.block ?_
        refine WC.seq ?_
        refine WC.region ?_
        refine WL.y (Yl.move rfl) rfl ?_ -- t165
        refine WL.y (Yl.quo rfl rfl (by omega) (i64_quo (by omega) (by omega))) rfl ?_ -- t166
        refine WL.y (Yl.sub rfl rfl (IntWalk.i64_in _ (by omega))) rfl ?_ -- t167
        refine WL.say (t := 167) (v' := .int .i64 (4 - 1 - ((0 : Nat) : Int))) rfl (by rfl) ?_
        refine WL.y (Yl.assign rfl) rfl ?_ -- t22
        refine WL.nil ?_
        refine WC.block ?_
        refine WC.loop (α := Nat × (Option Addr × Nat)) (fun p => [(1, .int .i64 32), (6, .slice (some ⟨b25, 0, none⟩) 8 8), (20, .slice p.2.1 (i8 * 4 + p.1) p.2.2), (21, .int .i64 (i8 : Int)), (22, .int .i64 (4 - 1 - (p.1 : Int)))]) (fun p => [ownR (.slice p.2.1 (i8 * 4 + p.1) p.2.2) 5 1 (i8 * 4 + p.1) (ints .u8 (rdgF 4 (HH.take i8) ++ rwdF 4 (HH.getD i8 0) p.1)), ownR (.slice (some ⟨b25, 0, none⟩) 8 8) 24 1 8 (ints .u64 HH)]) (fun p => p.1 ≤ 4) (fun p => 4 - p.1) (0, oo, oc) (Nat.zero_le _) ⟨(by repeat (first | exact Sub.nil | refine Sub.cons rfl ?_)), _, by rw [show rwdF 4 (HH.getD i8 0) 0 = [] from rfl, List.append_nil]; exact (by repeat (first | exact TakeL.nil | (apply TakeL.cons; · repeat (first | exact Take1.head | apply Take1.tail))))⟩ ?_
        rintro ⟨j9, eo, ec⟩ hj9
        dsimp only at hj9 ⊢
        refine WC.seq ?_
        refine WC.seq ?_
        refine WC.region ?_
        refine WL.y (Yl.move rfl) rfl ?_ -- t168
        refine WL.y (Yl.geq rfl rfl) rfl ?_ -- t169
        refine WL.nil ?_
        refine WC.condD rfl (fun g169 => ?_) (fun g169 => ?_)
        · refine WC.skip ?_
          refine WC.seq ?_
          refine WC.block ?_
          refine WC.drawAny (Hs := [ownR (.slice (some ⟨b25, 0, none⟩) 8 8) 24 1 8 (ints .u64 HH)]) mixed (by kernel_rfl) ⟨_, (by repeat (first | exact TakeL.nil | (apply TakeL.cons; · repeat (first | exact Take1.head | apply Take1.tail))))⟩ ?_
          refine WD.take 0 rfl (by kernel_rfl) (by kernel_rfl) (by kernel_rfl) rfl rfl (Yl.move rfl) rfl ?_ -- t172
          refine WD.take 1 rfl (by kernel_rfl) (by kernel_rfl) (by kernel_rfl) rfl rfl (Yl.move rfl) rfl ?_ -- t173
          refine WD.take 2 rfl (by kernel_rfl) (by kernel_rfl) (by kernel_rfl) rfl rfl (Yl.move rfl) rfl ?_ -- t174
          refine WD.take 3 rfl (by kernel_rfl) (by kernel_rfl) (by kernel_rfl) rfl rfl (Yl.index un97 sz24 rfl rfl (Reads.of RdOf.own (by repeat (first | exact Take1.head | apply Take1.tail))) rfl (by omega)) rfl ?_ -- t175
          refine WD.take 4 rfl (by kernel_rfl) (by kernel_rfl) (by kernel_rfl) rfl rfl (Yl.loadE on24 rfl (Reads.of RdOf.own (by repeat (first | exact Take1.head | apply Take1.tail))) (ints_get _ HH i8 (by omega))) rfl ?_ -- t176
          refine WD.take 5 rfl (by kernel_rfl) (by kernel_rfl) (by kernel_rfl) rfl rfl (Yl.move rfl) rfl ?_ -- t177
          refine WD.take 6 rfl (by kernel_rfl) (by kernel_rfl) (by kernel_rfl) rfl rfl (Yl.mul rfl rfl (IntWalk.i64_in _ (by omega))) rfl ?_ -- t178
          refine WD.say (t := 178) (v' := .int .i64 ((8 * (4 - 1 - j9) : Nat) : Int)) rfl (by (refine congrArg _ ?_; omega)) ?_
          refine WD.one 7 (by kernel_rfl) ?_
          refine WO.callC (xs := [.tmp 178]) (cap := []) rfl .no rfl rfl en67 (by repeat (first | exact TakeL.nil | (apply TakeL.cons; · repeat (first | exact Take1.head | apply Take1.tail)))) (fun w hw => power_any (8 * (4 - 1 - j9)) (by omega) w hw.left.here) rfl (fun _ => ⟨_, (by repeat (first | exact TakeL.nil | (apply TakeL.cons; · repeat (first | exact Take1.head | apply Take1.tail))))⟩) ?_ -- t179 hailer/hailerref01.power
          rintro ⟨⟩ -
          refine WD.take 8 rfl (by kernel_rfl) (by kernel_rfl) (by kernel_rfl) rfl rfl (Yl.quo rfl rfl (Int.ne_of_gt (pow_pos _)) (u64_quo (hbw.at i8) (pow_pos _))) rfl ?_
          refine WD.take 9 rfl (by kernel_rfl) (by kernel_rfl) (by kernel_rfl) rfl rfl (Yl.rem rfl rfl (by decide) (Int.tmod_eq_emod_of_nonneg (Int.ediv_nonneg (hbw.at i8).1 (Int.le_of_lt (pow_pos _))))) rfl ?_
          refine WD.take 10 rfl (by kernel_rfl) (by kernel_rfl) (by kernel_rfl) rfl rfl (Yl.conv un24 un5 rfl rfl) rfl ?_ -- t182
          refine WD.one 11 (by kernel_rfl) ?_
          refine WO.to rfl rfl .no (To.buildSlice (vs := [.int .u8 (IntKind.u8.wrap (HH.getD i8 0 / 2 ^ (8 * (4 - 1 - j9)) % 256))]) un53 zs5 rfl rfl (by simp [Value.cells]) (by decide) (by decide)) rfl (fun _ => ⟨_, (by repeat (first | exact TakeL.nil | (apply TakeL.cons; · repeat (first | exact Take1.head | apply Take1.tail))))⟩) ?_ -- t183
          intro b183
          refine WD.one 12 (by kernel_rfl) ?_
          refine WO.to rfl rfl .no (To.append sl53 rfl rfl (by repeat (first | exact Take1.head | apply Take1.tail)) (Reads.of (RdOf.blk (size := 1) (cs := [.int .u8 (IntKind.u8.wrap (HH.getD i8 0 / 2 ^ (8 * (4 - 1 - j9)) % 256))]) (cs' := [.int .u8 (IntKind.u8.wrap (HH.getD i8 0 / 2 ^ (8 * (4 - 1 - j9)) % 256))]) (Nat.le_refl _) (by unfold maxLen; omega) (by simp) rfl) (by repeat (first | exact Take1.head | apply Take1.tail))) (by intro v hv; rw [List.mem_singleton.1 hv]; rfl) rfl (show _ = ints .u8 (rdgF 4 (HH.take i8) ++ rwdF 4 (HH.getD i8 0) (j9 + 1)) by rw [ints_snoc, rwdF_succ, List.append_assoc]) (by unfold maxLen; omega) (by omega)) rfl (fun _ => ⟨_, (by repeat (first | exact TakeL.nil | (apply TakeL.cons; · repeat (first | exact Take1.head | apply Take1.tail))))⟩) ?_ -- t184
          rintro ⟨⟨ao184, c184⟩, hc184⟩
          dsimp only at hc184 ⊢
          refine WD.take 13 rfl (by kernel_rfl) (by kernel_rfl) (by kernel_rfl) rfl rfl (Yl.assign rfl) rfl ?_ -- t20
          refine WD.done (by kernel_rfl) ?_
          refine WC.region ?_
          refine WL.y (Yl.move rfl) rfl ?_ -- t170
          refine WL.y (Yl.sub rfl rfl (IntWalk.i64_in _ (by omega))) rfl ?_ -- t171
          refine WL.say (t := 171) (v' := .int .i64 (4 - 1 - ((j9 + 1 : Nat) : Int))) rfl (by (refine congrArg _ ?_; omega)) ?_
          refine WL.y (Yl.assign rfl) rfl ?_ -- t22
          refine WL.nil ?_
          exact ⟨rfl, (j9 + 1, ao184, c184), by dsimp only; omega, by dsimp only; omega, (by repeat (first | exact Sub.nil | refine Sub.cons rfl ?_)), _, (by repeat (first | exact TakeL.nil | (apply TakeL.cons; · repeat (first | exact Take1.head | apply Take1.tail))))⟩
        · refine WC.exit ?_
          refine WC.region ?_
          refine WL.y (Yl.move rfl) rfl ?_ -- t163
          refine WL.y (Yl.add rfl rfl (IntWalk.i64_in _ (by omega))) rfl ?_ -- t164
          refine WL.y (Yl.assign rfl) rfl ?_ -- t21
          refine WL.nil ?_
          have hj10 : j9 = 4 := by omega
          subst hj10
          refine ⟨rfl, (i8 + 1, eo, ec), by dsimp only; omega, by dsimp only; omega, ?_⟩
          dsimp only
          rw [rdgF_snoc 4 (by omega), Nat.succ_mul]
          exact ⟨(by repeat (first | exact Sub.nil | refine Sub.cons rfl ?_)), _, (by repeat (first | exact TakeL.nil | (apply TakeL.cons; · repeat (first | exact Take1.head | apply Take1.tail))))⟩
      · refine WC.exit ?_
        refine WC.seq ?_
        refine WC.region ?_
        refine WL.y (Yl.move rfl) rfl ?_ -- t185
        refine WL.y (Yl.assign rfl) rfl ?_ -- t4
        refine WL.nil ?_
        refine WC.ret ?_
        repeat (first | (with_reducible refine peelT ?_) | (with_reducible refine peelB ?_) | (with_reducible refine peelTX ?_) | (with_reducible refine peelBX ?_) | (with_reducible refine peelBN ?_) | (with_reducible refine peelBO rfl ?_))
        have hi9 : i8 = 8 := by omega
        subst hi9
        have hqq : P.length / 64 = q := by omega
        have e : rsumF 32 4 64 4294967296 bs = rdgF 4 HH := by
          unfold rsumF
          rw [hP, hH0, show P.length / (16 * 4) = q from hqq, hHH]
        rw [e]
        exact ret1 (.inr rfl) Try.results51 rfl fun w' h => ⟨(oo, oc), trivial, rfl, by rw [List.take_of_length_le (by omega)] at h; exact h.sub (by repeat (first | exact TakeL.nil | (apply TakeL.cons; · repeat (first | exact Take1.head | apply Take1.tail))))⟩
end Go.Proofs.Ytfdnnlcfolgegaa
