/- JitterEnds: the walk. -/
import Derived.Test.YtklbmgfpnafdlaaJitE
import Derived.Test.YtklbmgfpnafdlaaJitBA
import Derived.Test.YtklbmgfpnafdlaaWireP
namespace Go.Proofs.Ytklbmgfpnafdlaa
open Go Go.RowKit

theorem U6.of {n : Int} (h : (Lit.int .u64 n).wf = true) : U6 n := by
  rw [Lit.wf_int_iff] at h
  have e1 : IntKind.u64.min = 0 := by decide
  have e2 : IntKind.u64.max = 18446744073709551615 := by decide
  rw [e1, e2] at h
  unfold U6
  omega
def vvU (_ : Unit) : Value := .agg #[]
theorem unit_get {m : Option Unit} : (m.map vvU).getD (.agg #[]) = .agg #[] := by cases m <;> rfl
def gateE (s : Int) (n : Nat) : Bool := !mayJ 1 s || decide (200 < (n : Int)) || decide ((n : Int) = 0)
theorem S1.ok {s : Int} {j : Nat} {fv : Int} {B : Jb} (h : S1 s j fv B) : B.ok := by
  rcases h with ⟨_, rfl, hs⟩ | ⟨_, h⟩
  · exact Jb.init_ok U6_0 hs
  · exact h.ok
theorem seenM_ok {m : List (Int × Value)} (h : ∀ p ∈ m, U6 p.1) : ∀ p ∈ seenM m, U6 p.1 := by
  intro p hp
  obtain ⟨q, hq, rfl⟩ := List.mem_map.1 hp
  exact h q hq

set_option maxHeartbeats 1600000 in
set_option maxRecDepth 100000 in
theorem ends_any (s : Int) (l : List Int) (v : Value) (hs : U6 s) (hB : Bytes l) (w : World) (hw : OK w (fpL [rdR v 1 l.length (ints .u8 l)]) [rdR v 1 l.length (ints .u8 l)] w) :
    Fn Try.prog 4 [.int .u64 s, v] [rdR v 1 l.length (ints .u8 l)] w (fun _ : Unit => True) (fun _ => .bool true) (fun _ => []) := by
  obtain ⟨al, cl, rfl, hcl, hml⟩ := (hw.get .head : Rd _ _ _ _ _).form
  refine enterF Try.func4 rfl Try.ntmps4 rfl hw ?_
  refine WC.seq ?_
  refine WC.region ?_
  refine WL.y (Yl.assign rfl) rfl ?_ -- t4
  refine WL.nil ?_
  refine WC.seq ?_
  refine WC.seq ?_
  refine WC.region ?_
  refine WL.callC (xs := []) (cap := []) rfl rfl en7 (by repeat (first | exact TakeL.nil | (apply TakeL.cons; · repeat (first | exact Take1.head | apply Take1.tail)))) (fun w hw => known_any w hw.left.here) rfl ?_ -- t30 hailer/hailerlaw39.known
  rintro ⟨⟩ -
  refine WL.y (Yl.not rfl) rfl ?_ -- t31
  refine WL.know (t := 31) (b' := false) rfl (by first | rfl | (simp; done) | (simp; omega)) ?_
  refine WL.nil ?_
  refine WC.condF rfl (by first | rfl | (simp; done) | (simp; omega)) ?_
  refine WC.skip ?_
  refine WC.seq ?_
  refine WC.midE (α := Unit) (fun _ => [(44, .bool (gateE s l.length))]) (fun _ => [rdR (.slice al l.length cl) 1 l.length (ints .u8 l)]) (fun _ => True) ?_ ?_
  · refine WC.region ?_
    refine WL.y (Yl.move rfl) rfl ?_ -- t32
    refine WL.callC (xs := [_, .tmp 32]) (cap := []) rfl rfl en9 (by repeat (first | exact TakeL.nil | (apply TakeL.cons; · repeat (first | exact Take1.head | apply Take1.tail)))) (fun w hw => may_any 1 s w hw.left.here) rfl ?_ -- t33 hailer/hailerref39.May
    rintro ⟨⟩ -
    refine WL.y (Yl.not rfl) rfl ?_ -- t34
    refine WL.y (Yl.move rfl) rfl ?_ -- t35
    refine WL.both (t := 35) rfl (fun g35 => ?_) (fun g35 => ?_)
    · refine WL.off rfl rfl rfl rfl ?_ -- t36
      refine WL.off rfl rfl rfl rfl ?_ -- t37
      refine WL.off rfl rfl rfl rfl ?_ -- t38
      refine WL.y (Yl.pickT rfl rfl) rfl ?_ -- t39
      refine WL.y (Yl.move rfl) rfl ?_ -- t40
      refine WL.off rfl rfl rfl rfl ?_ -- t41
      refine WL.off rfl rfl rfl rfl ?_ -- t42
      refine WL.off rfl rfl rfl rfl ?_ -- t43
      refine WL.y (Yl.pickT rfl rfl) rfl ?_ -- t44
      refine WL.say (t := 44) (v' := .bool (gateE s l.length)) rfl (by (unfold gateE; simp_all <;> (intros; omega))) ?_
      refine WL.nil ?_
      exact ⟨rfl, (), trivial, (by repeat (first | exact Sub.nil | refine Sub.cons rfl ?_)), (by repeat (first | exact Sub.nil | refine Sub.cons rfl ?_)), _, (by repeat (first | exact TakeL.nil | (apply TakeL.cons; · repeat (first | exact Take1.head | apply Take1.tail))))⟩
    · refine WL.on rfl rfl ?_
      refine WL.y (Yl.move rfl) rfl ?_ -- t36
      refine WL.on rfl rfl ?_
      refine WL.y (Yl.len un52 rfl) rfl ?_ -- t37
      refine WL.on rfl rfl ?_
      refine WL.y (Yl.gtr rfl rfl) rfl ?_ -- t38
      refine WL.y (Yl.pickF rfl rfl) rfl ?_ -- t39
      refine WL.y (Yl.move rfl) rfl ?_ -- t40
      refine WL.both (t := 40) rfl (fun g40 => ?_) (fun g40 => ?_)
      · refine WL.off rfl rfl rfl rfl ?_ -- t41
        refine WL.off rfl rfl rfl rfl ?_ -- t42
        refine WL.off rfl rfl rfl rfl ?_ -- t43
        refine WL.y (Yl.pickT rfl rfl) rfl ?_ -- t44
        refine WL.say (t := 44) (v' := .bool (gateE s l.length)) rfl (by (unfold gateE; simp_all <;> (intros; omega))) ?_
        refine WL.nil ?_
        exact ⟨rfl, (), trivial, (by repeat (first | exact Sub.nil | refine Sub.cons rfl ?_)), (by repeat (first | exact Sub.nil | refine Sub.cons rfl ?_)), _, (by repeat (first | exact TakeL.nil | (apply TakeL.cons; · repeat (first | exact Take1.head | apply Take1.tail))))⟩
      · refine WL.on rfl rfl ?_
        refine WL.y (Yl.move rfl) rfl ?_ -- t41
        refine WL.on rfl rfl ?_
        refine WL.y (Yl.len un52 rfl) rfl ?_ -- t42
        refine WL.on rfl rfl ?_
        refine WL.y (Yl.eql rfl rfl) rfl ?_ -- t43
        refine WL.y (Yl.pickF rfl rfl) rfl ?_ -- t44
        refine WL.say (t := 44) (v' := .bool (gateE s l.length)) rfl (by (unfold gateE; simp_all <;> (intros; omega))) ?_
        refine WL.nil ?_
        exact ⟨rfl, (), trivial, (by repeat (first | exact Sub.nil | refine Sub.cons rfl ?_)), (by repeat (first | exact Sub.nil | refine Sub.cons rfl ?_)), _, (by repeat (first | exact TakeL.nil | (apply TakeL.cons; · repeat (first | exact Take1.head | apply Take1.tail))))⟩
  · rintro ⟨⟩ -
    dsimp only [List.cons_append, List.nil_append]
    refine WC.cond rfl (fun g44 => ?_) (fun g44 => ?_)
    · refine WC.seq ?_
      refine WC.region ?_
      refine WL.y (Yl.assign rfl) rfl ?_ -- t4
      refine WL.nil ?_
      refine WC.ret ?_
      repeat (first | (with_reducible refine peelT ?_) | (with_reducible refine peelB ?_) | (with_reducible refine peelTX ?_) | (with_reducible refine peelBX ?_) | (with_reducible refine peelBN ?_) | (with_reducible refine peelBO rfl ?_))
      exact ret1 (.inr rfl) Try.results4 rfl fun w' h => ⟨(), trivial, rfl, h.sub (by repeat (first | exact TakeL.nil | (apply TakeL.cons; · repeat (first | exact Take1.head | apply Take1.tail))))⟩
    · refine WC.skip ?_
      refine WC.seq ?_
      obtain ⟨hm0, hl1⟩ : mayJ 1 s = true ∧ (¬ 200 < (l.length : Int) ∧ ¬ (l.length : Int) = 0) := by
        unfold gateE at g44
        simp only [Bool.or_eq_false_iff, decide_eq_false_iff_not] at g44
        exact ⟨by simpa using g44.1.1, g44.1.2, g44.2⟩
      obtain ⟨hl200, hl0⟩ := hl1
      have hs4 : 0 < s ∧ s ≤ 4294967296 := by
        unfold mayJ at hm0
        simp at hm0
        exact hm0
      refine WC.region ?_
      refine WL.y (Yl.move rfl) rfl ?_ -- t46
      refine WL.callC (xs := [_, .tmp 46]) (cap := []) rfl rfl en19 (by repeat (first | exact TakeL.nil | (apply TakeL.cons; · repeat (first | exact Take1.head | apply Take1.tail)))) (fun w hw => newA_any 0 s ⟨by omega, by omega⟩ hs4 w hw.left.here) rfl ?_ -- t47 hailer/jitter.New[uint8]
      rintro ⟨b, m⟩ -
      dsimp only [jb, List.cons_append, List.nil_append]
      refine WL.y (Yl.move rfl) rfl ?_ -- t45
      refine WL.y (Yl.extract rfl rfl) rfl ?_ -- t48
      refine WL.y (Yl.extract rfl rfl) rfl ?_ -- t49
      refine WL.y (Yl.assign rfl) rfl ?_ -- t5
      refine WL.y (Yl.assign rfl) rfl ?_ -- t6
      refine WL.nil ?_
      refine WC.seq ?_
      refine WC.seq ?_
      refine WC.region ?_
      refine WL.y (Yl.move rfl) rfl ?_ -- t50
      refine WL.y (Yl.neq rfl rfl) rfl ?_ -- t51
      refine WL.know (t := 51) (b' := false) rfl (by first | rfl | (simp; done) | (simp; omega)) ?_
      refine WL.nil ?_
      refine WC.condF rfl (by first | rfl | (simp; done) | (simp; omega)) ?_
      refine WC.skip ?_
      refine WC.seq ?_
      refine WC.region ?_
      refine WL.to (To.makeMap (Value.int .u64) vvU) rfl ?_ -- t52
      intro b52
      refine WL.y (Yl.assign rfl) rfl ?_ -- t7
      refine WL.nil ?_
      refine WC.seq ?_
      refine WC.region ?_
      refine WL.y (Yl.assign rfl) rfl ?_ -- t8
      refine WL.nil ?_
      refine WC.seq ?_
      refine WC.seq ?_
      refine WC.region ?_
      refine WL.y (Yl.move rfl) rfl ?_ -- t53
      refine WL.y (Yl.len un52 rfl) rfl ?_ -- t54
      refine WL.y (Yl.move rfl) rfl ?_ -- t55
      refine WL.nil ?_
      refine WC.block ?_
      refine WC.loop (α := Nat × Jb × Int) (fun p => [(5, .pointer (some ⟨b, 0, none⟩)), (7, .map (some b52)), (8, .int .u64 p.2.2), (53, .slice al l.length cl), (54, .int .i64 (l.length : Int)), (55, .int .i64 (p.1 : Int))]) (fun p => [blkR b 111 (p.2.1.cells m), mapR (Value.int .u64) vI m p.2.1.m, mapR (Value.int .u64) vvU b52 (seenM p.2.1.m), rdR (.slice al l.length cl) 1 l.length (ints .u8 l)]) (fun p => p.1 ≤ l.length ∧ S1 s p.1 p.2.2 p.2.1) (fun p => l.length - p.1) (0, Jb.init 0 s, 0) ⟨Nat.zero_le _, .inl ⟨rfl, rfl, hs⟩⟩ ⟨(by repeat (first | exact Sub.nil | refine Sub.cons rfl ?_)), _, (by repeat (first | exact TakeL.nil | (apply TakeL.cons; · repeat (first | exact Take1.head | apply Take1.tail))))⟩ ?_
      rintro ⟨j, B, fv⟩ ⟨hj, hS⟩
      dsimp only at hj hS ⊢
      refine WC.seq ?_
      refine WC.region ?_
      refine WL.y (Yl.lss rfl rfl) rfl ?_ -- t56
      refine WL.nil ?_
      refine WC.seq ?_
      refine WC.condD rfl (fun g56 => ?_) (fun g56 => ?_)
      · refine WC.skip ?_
        refine WC.seq ?_
        refine WC.block ?_
        refine WC.seq ?_
        refine WC.region ?_
        refine WL.y (Yl.move rfl) rfl ?_ -- t57
        have hjl : j < l.length := by omega
        obtain ⟨n, hn0⟩ : ∃ n, l[j]? = some n := ⟨_, List.getElem?_eq_getElem hjl⟩
        have hn := hB n (List.mem_of_getElem? hn0)
        have hcU : U6 (18446744073709551615 - n) := ⟨by omega, by omega⟩
        have hGs := seenM_ok hS.ok.m
        obtain ⟨B', hp, hk0, hk1, hS'⟩ := put1 hS hn
        refine WL.y (Yl.index un52 sz5 rfl rfl (Reads.of (r := rdR (.slice al l.length cl) 1 l.length (ints .u8 l)) RdOf.rd' (by repeat (first | exact Take1.head | apply Take1.tail))) rfl (by omega)) rfl ?_ -- t58
        refine WL.y (Yl.loadE (u := .int .u8 n) on5 rfl (Reads.of (r := rdR (.slice al l.length cl) 1 l.length (ints .u8 l)) RdOf.rd' (by repeat (first | exact Take1.head | apply Take1.tail))) (by simp [ints, hn0])) rfl ?_
        refine WL.y (Yl.assign rfl) rfl ?_ -- t9
        refine WL.y (Yl.assign rfl) rfl ?_ -- t10
        refine WL.nil ?_
        refine WC.seq ?_
        refine WC.region ?_
        refine WL.y (Yl.move rfl) rfl ?_ -- t60
        refine WL.y (Yl.conv un5 un22 rfl (wr_in (by omega))) rfl ?_ -- t61
        refine WL.y (Yl.sub rfl rfl rfl) rfl ?_ -- t62
        refine WL.say (t := 62) (v' := .int .u64 (18446744073709551615 - n)) rfl (by exact congrArg _ (wr_in ⟨by omega, by omega⟩)) ?_
        refine WL.y (Yl.assign rfl) rfl ?_ -- t11
        refine WL.nil ?_
        refine WC.midX (α := Unit) (fun _ => [(5, .pointer (some ⟨b, 0, none⟩)), (7, .map (some b52)), (8, .int .u64 (firstV j fv (18446744073709551615 - n))), (10, .int .u8 n), (11, .int .u64 (18446744073709551615 - n)), (53, .slice al l.length cl), (54, .int .i64 (l.length : Int)), (55, .int .i64 (j : Int))]) (fun _ => [blkR b 111 (B.cells m), mapR (Value.int .u64) vI m B.m, mapR (Value.int .u64) vvU b52 (seenM B.m), rdR (.slice al l.length cl) 1 l.length (ints .u8 l)]) (fun _ => True) ?_ ?_
        · refine WC.seq ?_
          refine WC.region ?_
          refine WL.y (Yl.move rfl) rfl ?_ -- t63
          refine WL.y (Yl.eql rfl rfl) rfl ?_ -- t64
          refine WL.nil ?_
          refine WC.cond rfl (fun g64 => ?_) (fun g64 => ?_)
          · refine WC.region ?_
            refine WL.y (Yl.move rfl) rfl ?_ -- t65
            refine WL.y (Yl.assign rfl) rfl ?_ -- t8
            refine WL.nil ?_
            have e : firstV j fv (18446744073709551615 - n) = 18446744073709551615 - n := if_pos (by have := of_decide_eq_true g64; omega)
            rw [e]
            exact ⟨rfl, (), trivial, (by repeat (first | exact Sub.nil | refine Sub.cons rfl ?_)), _, (by repeat (first | exact TakeL.nil | (apply TakeL.cons; · repeat (first | exact Take1.head | apply Take1.tail))))⟩
          · refine WC.skip ?_
            have e : firstV j fv (18446744073709551615 - n) = fv := if_neg (by have := of_decide_eq_false g64; omega)
            rw [e]
            exact ⟨rfl, (), trivial, (by repeat (first | exact Sub.nil | refine Sub.cons rfl ?_)), _, (by repeat (first | exact TakeL.nil | (apply TakeL.cons; · repeat (first | exact Take1.head | apply Take1.tail))))⟩
        · rintro ⟨⟩ -
          refine WC.seq ?_
          refine WC.region ?_
          refine WL.y (Yl.move rfl) rfl ?_ -- t66
          refine WL.y (Yl.move rfl) rfl ?_ -- t67
          refine WL.y (Yl.move rfl) rfl ?_ -- t68
          refine WL.callC (xs := [.tmp 66, .tmp 67, _, .tmp 68]) (cap := []) rfl rfl en20 (by repeat (first | exact TakeL.nil | (apply TakeL.cons; · repeat (first | exact Take1.head | apply Take1.tail)))) (fun w hw => putA_any b m B (18446744073709551615 - n) 0 (.int .u8 n) hS.ok hcU U6_0 w hw.left.here) rfl ?_ -- t69 (*hailer/jitter.Buffer[uint8]).Put
          rintro ⟨⟩ -
          rw [hp]
          dsimp only [jb, List.cons_append, List.nil_append]
          obtain ⟨fv', hfv⟩ : ∃ fv', firstV j fv (18446744073709551615 - n) = fv' := ⟨_, rfl⟩
          rw [hfv] at hk0 hk1 hS' ⊢
          refine WL.y (Yl.assign rfl) rfl ?_ -- t12
          refine WL.nil ?_
          refine WC.seq ?_
          refine WC.region ?_
          refine WL.y (Yl.move rfl) rfl ?_ -- t71
          refine WL.y (Yl.move rfl) rfl ?_ -- t72
          refine WL.y (Yl.lookupOk (kv := Value.int .u64) keyU un56 (fun _ => by kernel_rfl) (z := .agg #[]) hGs rfl rfl hcU (MReads.of (m := seenM B.m) MapOf.own (by repeat (first | exact Take1.head | apply Take1.tail)))) rfl ?_ -- t73
          refine WL.say (t := 73) (v' := .tuple #[.agg #[], .bool (mget B.m (18446744073709551615 - n)).isSome]) rfl (by rw [unit_get, seenM_get]) ?_
          refine WL.y (Yl.move rfl) rfl ?_ -- t70
          refine WL.y (Yl.extract rfl rfl) rfl ?_ -- t74
          refine WL.y (Yl.extract rfl rfl) rfl ?_ -- t75
          refine WL.to (To.alloc (cs := []) (z := .agg #[]) (by kernel_rfl) rfl) rfl ?_
          intro b13
          refine WL.sto (Sto.agg sz58 rfl rfl (by repeat (first | exact Take1.head | apply Take1.tail)) (ys := []) (fun _ h => nomatch h) rfl (by rfl) (by rfl)) (fun _ h => nomatch h) ?_ -- st 1
          refine WL.y (Yl.assign rfl) rfl ?_ -- t14
          refine WL.nil ?_
          refine WC.seq ?_
          refine WC.region ?_
          refine WL.y (Yl.assign rfl) rfl ?_ -- t15
          refine WL.nil ?_
          refine WC.midX (α := Unit) (fun _ => [(5, .pointer (some ⟨b, 0, none⟩)), (7, .map (some b52)), (8, .int .u64 fv'), (11, .int .u64 (18446744073709551615 - n)), (12, .int .i64 (wantE fv' (18446744073709551615 - n) B)), (15, .int .i64 (wantE fv' (18446744073709551615 - n) B)), (53, .slice al l.length cl), (54, .int .i64 (l.length : Int)), (55, .int .i64 (j : Int))]) (fun _ => [blkR b 111 (B'.cells m), mapR (Value.int .u64) vI m B'.m, mapR (Value.int .u64) vvU b52 (seenM B.m), rdR (.slice al l.length cl) 1 l.length (ints .u8 l)]) (fun _ => True) ?_ ?_
          · refine WC.block ?_
            refine WC.seq ?_
            refine WC.region ?_
            refine WL.y (Yl.move rfl) rfl ?_ -- t77
            refine WL.y (Yl.move rfl) rfl ?_ -- t78
            refine WL.y (Yl.lss rfl rfl) rfl ?_ -- t79
            refine WL.y (Yl.assign rfl) rfl ?_ -- t76
            refine WL.nil ?_
            refine WC.cond rfl (fun g76 => ?_) (fun g76 => ?_)
            · refine WC.region ?_
              refine WL.y (Yl.assign rfl) rfl ?_ -- t15
              refine WL.nil ?_
              have e : wantE fv' (18446744073709551615 - n) B = 161 := if_pos (of_decide_eq_true g76)
              rw [e]
              exact ⟨rfl, (), trivial, (by repeat (first | exact Sub.nil | refine Sub.cons rfl ?_)), _, (by repeat (first | exact TakeL.nil | (apply TakeL.cons; · repeat (first | exact Take1.head | apply Take1.tail))))⟩
            · refine WC.seq ?_
              refine WC.region ?_
              refine WL.y (Yl.move rfl) rfl ?_ -- t81
              refine WL.y (Yl.assign rfl) rfl ?_ -- t80
              refine WL.nil ?_
              refine WC.cond rfl (fun g80 => ?_) (fun g80 => ?_)
              · refine WC.region ?_
                refine WL.y (Yl.assign rfl) rfl ?_ -- t15
                refine WL.nil ?_
                have e : wantE fv' (18446744073709551615 - n) B = 160 := by unfold wantE; rw [if_neg (of_decide_eq_false g76), if_pos g80]
                rw [e]
                exact ⟨rfl, (), trivial, (by repeat (first | exact Sub.nil | refine Sub.cons rfl ?_)), _, (by repeat (first | exact TakeL.nil | (apply TakeL.cons; · repeat (first | exact Take1.head | apply Take1.tail))))⟩
              · refine WC.skip ?_
                have e : wantE fv' (18446744073709551615 - n) B = 0 := by unfold wantE; rw [if_neg (of_decide_eq_false g76), if_neg (ne_true_of_eq_false g80)]
                rw [e]
                exact ⟨rfl, (), trivial, (by repeat (first | exact Sub.nil | refine Sub.cons rfl ?_)), _, (by repeat (first | exact TakeL.nil | (apply TakeL.cons; · repeat (first | exact Take1.head | apply Take1.tail))))⟩
          · rintro ⟨⟩ -
            refine WC.seq ?_
            refine WC.seq ?_
            refine WC.region ?_
            refine WL.y (Yl.move rfl) rfl ?_ -- t82
            refine WL.y (Yl.move rfl) rfl ?_ -- t83
            refine WL.y (Yl.neq rfl rfl) rfl ?_ -- t84
            refine WL.know (t := 84) (b' := false) rfl (by simp) ?_
            refine WL.nil ?_
            refine WC.condF rfl (by first | rfl | (simp; done) | (simp; omega)) ?_
            refine WC.skip ?_
            refine WC.seq ?_
            refine WC.region ?_
            refine WL.y (Yl.move rfl) rfl ?_ -- t85
            refine WL.y (Yl.eql rfl rfl) rfl ?_ -- t86
            refine WL.nil ?_
            refine WC.cond rfl (fun g86 => ?_) (fun g86 => ?_)
            · refine WC.region ?_
              refine WL.y (Yl.move rfl) rfl ?_ -- t87
              refine WL.y (Yl.move rfl) rfl ?_ -- t88
              refine WL.y (Yl.build rfl (cs := []) (fun _ => by kernel_rfl)) rfl ?_ -- t89
              refine WL.sto (Sto.mapPut (v := ()) (q := 18446744073709551615 - n) (m := seenM B.m) (kv := Value.int .u64) keyU un56 hGs rfl rfl hcU rfl (by repeat (first | exact Take1.head | apply Take1.tail))) (fun _ h => nomatch h) ?_ -- st 2
              refine WL.nil ?_
              refine WC.region ?_
              refine WL.y (Yl.add rfl rfl (IntWalk.i64_in _ (by omega))) rfl ?_ -- t90
              refine WL.y (Yl.move rfl) rfl ?_ -- t55
              refine WL.nil ?_
              obtain ⟨h1, h2⟩ := hk0 (of_decide_eq_true g86)
              exact ⟨rfl, (j + 1, B', fv'), ⟨by dsimp only; omega, hS'⟩, by dsimp only; omega, (by repeat (first | exact Sub.nil | refine Sub.cons rfl ?_)), _, by dsimp only; rw [h2, ← seenM_put h1]; exact (by repeat (first | exact TakeL.nil | (apply TakeL.cons; · repeat (first | exact Take1.head | apply Take1.tail))))⟩
            · refine WC.skip ?_
              refine WC.region ?_
              refine WL.y (Yl.add rfl rfl (IntWalk.i64_in _ (by omega))) rfl ?_ -- t90
              refine WL.y (Yl.move rfl) rfl ?_ -- t55
              refine WL.nil ?_
              have h2 := hk1 (of_decide_eq_false g86)
              exact ⟨rfl, (j + 1, B', fv'), ⟨by dsimp only; omega, hS'⟩, by dsimp only; omega, (by repeat (first | exact Sub.nil | refine Sub.cons rfl ?_)), _, by dsimp only; rw [h2]; exact (by repeat (first | exact TakeL.nil | (apply TakeL.cons; · repeat (first | exact Take1.head | apply Take1.tail))))⟩
      · refine WC.exit ?_
        refine WC.seq ?_
        have hjl : j = l.length := by omega
        subst hjl
        have hE1 : E1 s fv B := by
          rcases hS with ⟨h, _⟩ | ⟨_, h⟩
          · omega
          · exact h
        have hlo := hE1.lo
        refine WC.region ?_
        refine WL.y (Yl.move rfl) rfl ?_ -- t91
        refine WL.say (t := 91) (v' := .int .u64 (wr fv)) rfl (by rw [wr_in (by omega)]) ?_
        refine WL.y (Yl.assign rfl) rfl ?_ -- t16
        refine WL.nil ?_
        refine WC.seq ?_
        refine WC.block ?_
        refine WC.loop (α := Jb × Int) (fun p => [(5, .pointer (some ⟨b, 0, none⟩)), (7, .map (some b52)), (8, .int .u64 fv), (16, .int .u64 (wr p.2))]) (fun p => [blkR b 111 (p.1.cells m), mapR (Value.int .u64) vI m p.1.m, mapR (Value.int .u64) vvU b52 (seenM p.1.m), rdR (.slice al l.length cl) 1 l.length (ints .u8 l)]) (fun p => E2 s fv p.2 p.1) (fun p => (18446744073709551616 - p.2).toNat) (B, fv) hE1.two ⟨(by repeat (first | exact Sub.nil | refine Sub.cons rfl ?_)), _, (by repeat (first | exact TakeL.nil | (apply TakeL.cons; · repeat (first | exact Take1.head | apply Take1.tail))))⟩ ?_
        rintro ⟨C, c⟩ hE
        dsimp only at hE ⊢
        refine WC.seq ?_
        refine WC.seq ?_
        refine WC.region ?_
        refine WL.y (Yl.move rfl) rfl ?_ -- t92
        refine WL.y (Yl.lenM un56 rfl (MReads.of (m := seenM C.m) MapOf.own (by repeat (first | exact Take1.head | apply Take1.tail)))) rfl ?_ -- t93
        refine WL.y (Yl.gtr rfl rfl) rfl ?_ -- t94
        refine WL.nil ?_
        refine WC.condD rfl (fun g94 => ?_) (fun g94 => ?_)
        · refine WC.skip ?_
          refine WC.block ?_
          refine WC.seq ?_
          have hne : C.m ≠ [] := by
            intro h
            have h1 := g94
            rw [h] at h1
            exact absurd h1 (by decide)
          have hcb := hE.below hne
          have hcc := hE.hc
          have hcw : wr c = c := wr_in (by omega)
          have hcU : U6 c := ⟨by omega, hcb⟩
          have hGs := seenM_ok hE.ok.m
          obtain ⟨hn1, hn2, hE', hx⟩ := next2 hE hne (.int .u8 0)
          rw [hcw]
          refine WC.region ?_
          refine WL.y (Yl.move rfl) rfl ?_ -- t96
          refine WL.callC (xs := [.tmp 96, _]) (cap := []) rfl rfl en21 (by repeat (first | exact TakeL.nil | (apply TakeL.cons; · repeat (first | exact Take1.head | apply Take1.tail)))) (fun w hw => nextA_any b m C 18446744073709551615 hE.ok w hw.left.here) rfl ?_ -- t97 (*hailer/jitter.Buffer[uint8]).Next
          rintro ⟨⟩ -
          rw [hn1]
          dsimp only [jb, List.cons_append, List.nil_append]
          refine WL.y (Yl.move rfl) rfl ?_ -- t95
          refine WL.y (Yl.extract rfl rfl) rfl ?_ -- t98
          refine WL.y (Yl.extract rfl rfl) rfl ?_ -- t99
          refine WL.y (Yl.extract rfl rfl) rfl ?_ -- t100
          refine WL.y (Yl.extract rfl rfl) rfl ?_ -- t101
          refine WL.y (Yl.assign rfl) rfl ?_ -- t17
          refine WL.y (Yl.assign rfl) rfl ?_ -- t18
          refine WL.y (Yl.assign rfl) rfl ?_ -- t19
          refine WL.y (Yl.assign rfl) rfl ?_ -- t20
          refine WL.nil ?_
          refine WC.seq ?_
          refine WC.region ?_
          refine WL.y (Yl.move rfl) rfl ?_ -- t103
          refine WL.y (Yl.move rfl) rfl ?_ -- t104
          refine WL.y (Yl.lookupOk (kv := Value.int .u64) keyU un56 (fun _ => by kernel_rfl) (z := .agg #[]) hGs rfl rfl hcU (MReads.of (m := seenM C.m) MapOf.own (by repeat (first | exact Take1.head | apply Take1.tail)))) rfl ?_ -- t105
          refine WL.say (t := 105) (v' := .tuple #[.agg #[], .bool (mget C.m c).isSome]) rfl (by rw [unit_get, seenM_get]) ?_
          refine WL.y (Yl.move rfl) rfl ?_ -- t102
          refine WL.y (Yl.extract rfl rfl) rfl ?_ -- t106
          refine WL.y (Yl.extract rfl rfl) rfl ?_ -- t107
          refine WL.to (To.alloc (cs := []) (z := .agg #[]) (by kernel_rfl) rfl) rfl ?_
          intro b21
          refine WL.sto (Sto.agg sz58 rfl rfl (by repeat (first | exact Take1.head | apply Take1.tail)) (ys := []) (fun _ h => nomatch h) rfl (by rfl) (by rfl)) (fun _ h => nomatch h) ?_ -- st 3
          refine WL.y (Yl.assign rfl) rfl ?_ -- t22
          refine WL.nil ?_
          refine WC.seq ?_
          refine WC.seq ?_
          refine WC.region ?_
          refine WL.y (Yl.move rfl) rfl ?_ -- t108
          refine WL.y (Yl.not rfl) rfl ?_ -- t109
          refine WL.know (t := 109) (b' := false) rfl (by first | rfl | (simp; done) | (simp; omega)) ?_
          refine WL.y (Yl.move rfl) rfl ?_ -- t110
          refine WL.on rfl rfl ?_
          refine WL.y (Yl.move rfl) rfl ?_ -- t111
          refine WL.on rfl rfl ?_
          refine WL.y (Yl.move rfl) rfl ?_ -- t112
          refine WL.on rfl rfl ?_
          refine WL.y (Yl.neq rfl rfl) rfl ?_ -- t113
          refine WL.know (t := 113) (b' := false) rfl (by simp) ?_
          refine WL.y (Yl.pickF rfl rfl) rfl ?_ -- t114
          refine WL.y (Yl.move rfl) rfl ?_ -- t115
          refine WL.on rfl rfl ?_
          refine WL.y (Yl.move rfl) rfl ?_ -- t116
          refine WL.on rfl rfl ?_
          refine WL.y (Yl.move rfl) rfl ?_ -- t117
          refine WL.on rfl rfl ?_
          refine WL.y (Yl.bEq un4 rfl rfl) rfl ?_ -- t118
          refine WL.know (t := 118) (b' := false) rfl (by cases (mget C.m c).isSome <;> rfl) ?_
          refine WL.y (Yl.pickF rfl rfl) rfl ?_ -- t119
          refine WL.y (Yl.move rfl) rfl ?_ -- t120
          refine WL.on rfl rfl ?_
          refine WL.y (Yl.move rfl) rfl ?_ -- t121
          refine WL.on rfl rfl ?_
          refine WL.y (Yl.move rfl) rfl ?_ -- t122
          refine WL.both (t := 122) rfl (fun g122 => ?_) (fun g122 => ?_)
          · refine WL.on rfl rfl ?_
            refine WL.y (Yl.move rfl) rfl ?_ -- t123
            refine WL.say (t := 123) (v' := .int .u8 (18446744073709551615 - c)) rfl (by exact (hx g122).1) ?_
            refine WL.on rfl rfl ?_
            refine WL.y (Yl.move rfl) rfl ?_ -- t124
            refine WL.on rfl rfl ?_
            refine WL.y (Yl.sub rfl rfl rfl) rfl ?_ -- t125
            refine WL.say (t := 125) (v' := .int .u64 (18446744073709551615 - c)) rfl (by exact congrArg _ (wr_in ⟨by omega, by omega⟩)) ?_
            refine WL.on rfl rfl ?_
            refine WL.y (Yl.conv un22 un5 rfl (IntWalk.u8_in _ (by have := hx g122; omega))) rfl ?_ -- t126
            refine WL.on rfl rfl ?_
            refine WL.y (Yl.neq rfl rfl) rfl ?_ -- t127
            refine WL.know (t := 127) (b' := false) rfl (by simp) ?_
            refine WL.on rfl rfl ?_
            refine WL.y (Yl.pickT rfl rfl) rfl ?_ -- t128
            refine WL.know (t := 128) (b' := false) rfl (by first | rfl | (simp; done) | (simp; omega)) ?_
            refine WL.y (Yl.pickF rfl rfl) rfl ?_ -- t129
            refine WL.know (t := 129) (b' := false) rfl (by first | rfl | (simp; done) | (simp; omega)) ?_
            refine WL.nil ?_
            refine WC.condF rfl (by first | rfl | (simp; done) | (simp; omega)) ?_
            refine WC.skip ?_
            refine WC.seq ?_
            refine WC.region ?_
            refine WL.y (Yl.move rfl) rfl ?_ -- t130
            refine WL.y (Yl.move rfl) rfl ?_ -- t131
            refine WL.eff (Eff.mapDel (q := c) (m := seenM C.m) (kv := Value.int .u64) (vv := vvU) keyU un56 hGs rfl rfl hcU (by repeat (first | exact Take1.head | apply Take1.tail))) ?_
            refine WL.nil ?_
            refine WC.region ?_
            refine WL.y (Yl.move rfl) rfl ?_ -- t132
            refine WL.y (Yl.add rfl rfl rfl) rfl ?_ -- t133
            refine WL.say (t := 133) (v' := .int .u64 (wr (c + 1))) rfl (by rfl) ?_
            refine WL.y (Yl.assign rfl) rfl ?_ -- t16
            refine WL.nil ?_
            exact ⟨rfl, (C.step, c + 1), hE', by dsimp only; omega, (by repeat (first | exact Sub.nil | refine Sub.cons rfl ?_)), _, by dsimp only; rw [seenM_del, ← hn2]; exact (by repeat (first | exact TakeL.nil | (apply TakeL.cons; · repeat (first | exact Take1.head | apply Take1.tail))))⟩
          · refine WL.off rfl rfl rfl rfl ?_ -- t123
            refine WL.off rfl rfl rfl rfl ?_ -- t124
            refine WL.off rfl rfl rfl rfl ?_ -- t125
            refine WL.off rfl rfl rfl rfl ?_ -- t126
            refine WL.off rfl rfl rfl rfl ?_ -- t127
            refine WL.on rfl rfl ?_
            refine WL.y (Yl.pickF rfl rfl) rfl ?_ -- t128
            refine WL.know (t := 128) (b' := false) rfl (by first | rfl | (simp; done) | (simp; omega)) ?_
            refine WL.y (Yl.pickF rfl rfl) rfl ?_ -- t129
            refine WL.know (t := 129) (b' := false) rfl (by first | rfl | (simp; done) | (simp; omega)) ?_
            refine WL.nil ?_
            refine WC.condF rfl (by first | rfl | (simp; done) | (simp; omega)) ?_
            refine WC.skip ?_
            refine WC.seq ?_
            refine WC.region ?_
            refine WL.y (Yl.move rfl) rfl ?_ -- t130
            refine WL.y (Yl.move rfl) rfl ?_ -- t131
            refine WL.eff (Eff.mapDel (q := c) (m := seenM C.m) (kv := Value.int .u64) (vv := vvU) keyU un56 hGs rfl rfl hcU (by repeat (first | exact Take1.head | apply Take1.tail))) ?_
            refine WL.nil ?_
            refine WC.region ?_
            refine WL.y (Yl.move rfl) rfl ?_ -- t132
            refine WL.y (Yl.add rfl rfl rfl) rfl ?_ -- t133
            refine WL.say (t := 133) (v' := .int .u64 (wr (c + 1))) rfl (by rfl) ?_
            refine WL.y (Yl.assign rfl) rfl ?_ -- t16
            refine WL.nil ?_
            exact ⟨rfl, (C.step, c + 1), hE', by dsimp only; omega, (by repeat (first | exact Sub.nil | refine Sub.cons rfl ?_)), _, by dsimp only; rw [seenM_del, ← hn2]; exact (by repeat (first | exact TakeL.nil | (apply TakeL.cons; · repeat (first | exact Take1.head | apply Take1.tail))))⟩
        · refine WC.exit ?_
          refine WC.seq ?_
          have hm : C.m = [] := by
            have h1 := g94
            rw [seenM_len] at h1
            exact List.eq_nil_of_length_eq_zero (by omega)
          obtain ⟨h1, h2, h3⟩ := end2 hE hm (.int .u8 0) (.int .u8 1)
          have hfU : U6 fv := ⟨by omega, by omega⟩
          refine WC.region ?_
          refine WL.y (Yl.move rfl) rfl ?_ -- t135
          refine WL.callC (xs := [.tmp 135, _]) (cap := []) rfl rfl en21 (by repeat (first | exact TakeL.nil | (apply TakeL.cons; · repeat (first | exact Take1.head | apply Take1.tail)))) (fun w hw => nextA_any b m C 18446744073709551615 hE.ok w hw.left.here) rfl ?_ -- t136 (*hailer/jitter.Buffer[uint8]).Next
          rintro ⟨⟩ -
          rw [h1]
          dsimp only [jb, List.cons_append, List.nil_append]
          refine WL.y (Yl.move rfl) rfl ?_ -- t134
          refine WL.y (Yl.extract rfl rfl) rfl ?_ -- t137
          refine WL.y (Yl.extract rfl rfl) rfl ?_ -- t138
          refine WL.y (Yl.extract rfl rfl) rfl ?_ -- t139
          refine WL.y (Yl.extract rfl rfl) rfl ?_ -- t140
          refine WL.y (Yl.assign rfl) rfl ?_ -- t23
          refine WL.y (Yl.assign rfl) rfl ?_ -- t24
          refine WL.y (Yl.assign rfl) rfl ?_ -- t25
          refine WL.y (Yl.assign rfl) rfl ?_ -- t26
          refine WL.nil ?_
          refine WC.seq ?_
          refine WC.region ?_
          refine WL.y (Yl.move rfl) rfl ?_ -- t142
          refine WL.callC (xs := [.tmp 142]) (cap := []) rfl rfl en22 (by repeat (first | exact TakeL.nil | (apply TakeL.cons; · repeat (first | exact Take1.head | apply Take1.tail)))) (fun w hw => dueFA_any b m C hE.ok w hw.left.here) rfl ?_ -- t143 (*hailer/jitter.Buffer[uint8]).Due
          rintro ⟨⟩ -
          rw [show (!C.m.isEmpty) = false by rw [hm]; rfl]
          dsimp only [jb, List.cons_append, List.nil_append]
          refine WL.y (Yl.move rfl) rfl ?_ -- t141
          refine WL.y (Yl.extract rfl rfl) rfl ?_ -- t144
          refine WL.y (Yl.extract rfl rfl) rfl ?_ -- t145
          refine WL.y (Yl.assign rfl) rfl ?_ -- t27
          refine WL.y (Yl.assign rfl) rfl ?_ -- t28
          refine WL.nil ?_
          refine WC.seq ?_
          refine WC.region ?_
          refine WL.y (Yl.assign rfl) rfl ?_ -- t29
          refine WL.nil ?_
          refine WC.midX (α := Unit) (fun _ => [(5, .pointer (some ⟨b, 0, none⟩)), (8, .int .u64 fv), (26, .bool false), (28, .bool false), (29, .int .i64 (if wr c = 0 then 161 else 0))]) (fun _ => [blkR b 111 (C.cells m), mapR (Value.int .u64) vI m C.m, rdR (.slice al l.length cl) 1 l.length (ints .u8 l)]) (fun _ => True) ?_ ?_
          · refine WC.seq ?_
            refine WC.region ?_
            refine WL.y (Yl.move rfl) rfl ?_ -- t146
            refine WL.y (Yl.eql rfl rfl) rfl ?_ -- t147
            refine WL.nil ?_
            refine WC.cond rfl (fun g147 => ?_) (fun g147 => ?_)
            · refine WC.region ?_
              refine WL.y (Yl.assign rfl) rfl ?_ -- t29
              refine WL.nil ?_
              rw [if_pos (of_decide_eq_true g147)]
              exact ⟨rfl, (), trivial, (by repeat (first | exact Sub.nil | refine Sub.cons rfl ?_)), _, (by repeat (first | exact TakeL.nil | (apply TakeL.cons; · repeat (first | exact Take1.head | apply Take1.tail))))⟩
            · refine WC.skip ?_
              rw [if_neg (of_decide_eq_false g147)]
              exact ⟨rfl, (), trivial, (by repeat (first | exact Sub.nil | refine Sub.cons rfl ?_)), _, (by repeat (first | exact TakeL.nil | (apply TakeL.cons; · repeat (first | exact Take1.head | apply Take1.tail))))⟩
          · rintro ⟨⟩ -
            refine WC.seq ?_
            refine WC.region ?_
            refine WL.y (Yl.move rfl) rfl ?_ -- t148
            refine WL.y (Yl.not rfl) rfl ?_ -- t149
            refine WL.know (t := 149) (b' := true) rfl (by first | rfl | (simp; done) | (simp; omega)) ?_
            refine WL.y (Yl.move rfl) rfl ?_ -- t150
            refine WL.on rfl rfl ?_
            refine WL.y (Yl.move rfl) rfl ?_ -- t151
            refine WL.on rfl rfl ?_
            refine WL.y (Yl.not rfl) rfl ?_ -- t152
            refine WL.know (t := 152) (b' := true) rfl (by first | rfl | (simp; done) | (simp; omega)) ?_
            refine WL.y (Yl.pickT rfl rfl) rfl ?_ -- t153
            refine WL.know (t := 153) (b' := true) rfl (by first | rfl | (simp; done) | (simp; omega)) ?_
            refine WL.y (Yl.move rfl) rfl ?_ -- t154
            refine WL.on rfl rfl ?_
            refine WL.y (Yl.move rfl) rfl ?_ -- t155
            refine WL.on rfl rfl ?_
            refine WL.callC (xs := [.tmp 155, _, _, _]) (cap := []) rfl rfl en20 (by repeat (first | exact TakeL.nil | (apply TakeL.cons; · repeat (first | exact Take1.head | apply Take1.tail)))) (fun w hw => putA_any b m C 18446744073709551615 0 (.int .u8 1) hE.ok ⟨by omega, by omega⟩ U6_0 w hw.left.here) rfl ?_ -- t156 (*hailer/jitter.Buffer[uint8]).Put
            rintro ⟨⟩ -
            have hko := Jb.put_ok (x := .int .u8 1) hE.ok (ctr := 18446744073709551615) ⟨by omega, by omega⟩ U6_0
            rw [h2]
            obtain ⟨D, hD⟩ : ∃ D, (C.put 18446744073709551615 0 (.int .u8 1)).1 = D := ⟨_, rfl⟩
            rw [hD] at h3 hko ⊢
            dsimp only [jb, List.cons_append, List.nil_append]
            refine WL.on rfl rfl ?_
            refine WL.y (Yl.move rfl) rfl ?_ -- t157
            refine WL.on rfl rfl ?_
            refine WL.y (Yl.eql rfl rfl) rfl ?_ -- t158
            refine WL.know (t := 158) (b' := true) rfl (by simp) ?_
            refine WL.y (Yl.pickT rfl rfl) rfl ?_ -- t159
            refine WL.know (t := 159) (b' := true) rfl (by first | rfl | (simp; done) | (simp; omega)) ?_
            refine WL.y (Yl.move rfl) rfl ?_ -- t160
            refine WL.on rfl rfl ?_
            refine WL.y (Yl.move rfl) rfl ?_ -- t161
            refine WL.on rfl rfl ?_
            refine WL.y (Yl.move rfl) rfl ?_ -- t162
            refine WL.on rfl rfl ?_
            refine WL.callC (xs := [.tmp 161, .tmp 162, _, _]) (cap := []) rfl rfl en20 (by repeat (first | exact TakeL.nil | (apply TakeL.cons; · repeat (first | exact Take1.head | apply Take1.tail)))) (fun w hw => putA_any b m D fv 0 (.int .u8 1) hko hfU U6_0 w hw.left.here) rfl ?_ -- t163 (*hailer/jitter.Buffer[uint8]).Put
            rintro ⟨⟩ -
            rw [h3]
            dsimp only [jb, List.cons_append, List.nil_append]
            refine WL.on rfl rfl ?_
            refine WL.y (Yl.eql rfl rfl) rfl ?_ -- t164
            refine WL.know (t := 164) (b' := true) rfl (by first | rfl | (simp; done) | (simp; omega)) ?_
            refine WL.y (Yl.pickT rfl rfl) rfl ?_ -- t165
            refine WL.know (t := 165) (b' := true) rfl (by first | rfl | (simp; done) | (simp; omega)) ?_
            refine WL.y (Yl.assign rfl) rfl ?_ -- t4
            refine WL.nil ?_
            refine WC.ret ?_
            repeat (first | (with_reducible refine peelT ?_) | (with_reducible refine peelB ?_) | (with_reducible refine peelTX ?_) | (with_reducible refine peelBX ?_) | (with_reducible refine peelBN ?_) | (with_reducible refine peelBO rfl ?_))
            exact ret1 (.inr rfl) Try.results4 rfl fun w' h => ⟨(), trivial, rfl, h.sub (by repeat (first | exact TakeL.nil | (apply TakeL.cons; · repeat (first | exact Take1.head | apply Take1.tail))))⟩
end Go.Proofs.Ytklbmgfpnafdlaa
