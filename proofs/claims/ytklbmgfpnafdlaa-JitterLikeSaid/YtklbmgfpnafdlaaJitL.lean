/- JitterLike: the walk. -/
import Derived.Test.YtklbmgfpnafdlaaJitE
import Derived.Test.YtklbmgfpnafdlaaJitK
import Derived.Test.YtklbmgfpnafdlaaJitHV
namespace Go.Proofs.Ytklbmgfpnafdlaa
open Go Go.RowKit

def gateL (s n : Int) (m : Nat) : Bool := decide (n = 0) || decide (s = 0) || decide (1000 < s) || decide (300 < (m : Int))
theorem ysK_len (K : Nat) : (ysK K).length = K := by simp [ysK]
theorem ysK_size {K : Nat} : ∀ x ∈ ysK K, x.size = 2 := by
  intro x hx
  obtain ⟨k, _, rfl⟩ := List.mem_map.1 hx
  rfl
theorem ysK_at {K i : Nat} {x : Array Value} (h : (ysK K)[i]? = some x) : i < K ∧ x = #[.int .u64 (i : Int), .int .u64 (i : Int)] := by
  have hi : i < K := by
    have := (List.getElem?_eq_some_iff.1 h).1
    rwa [ysK_len] at this
  refine ⟨hi, ?_⟩
  unfold ysK at h
  rw [List.getElem?_map, List.getElem?_range hi] at h
  exact (Option.some.inj h).symm
theorem up_in {i K : Nat} (h : i < K) (hK : K ≤ 255) : Value.int .u64 (IntKind.u64.wrap ((i : Int) + 1)) = .int .u64 ((i + 1 : Nat) : Int) := by
  rw [show ((i + 1 : Nat) : Int) = (i : Int) + 1 by omega]
  exact congrArg _ (wr_in ⟨by omega, by omega⟩)

set_option maxHeartbeats 1600000 in
set_option maxRecDepth 100000 in
theorem like_any (s : Int) (K : Nat) (l : List Int) (v : Value) (hs : U6 s) (hK : K ≤ 255) (hl : ∀ x ∈ l, 0 ≤ x ∧ x < 65536) (w : World) (hw : OK w (fpL [rdR v 1 l.length (ints .u16 l)]) [rdR v 1 l.length (ints .u16 l)] w) :
    Fn Try.prog 6 [.int .u64 s, .int .u8 (K : Int), v] [rdR v 1 l.length (ints .u16 l)] w (fun _ : Unit => True) (fun _ => .bool true) (fun _ => []) := by
  obtain ⟨al, cl, rfl, hcl, hml⟩ := (hw.get .head : Rd _ _ _ _ _).form
  refine enterM Try.func6 rfl Try.ntmps6 rfl hw ?_
  refine WC.seq ?_
  refine WC.region ?_
  refine WL.to (To.alloc (cs := [.bool false]) zr4 rfl) rfl ?_ -- t6
  intro b6
  refine WL.nil ?_
  refine WC.seq ?_
  refine WC.seq ?_
  refine WC.region ?_
  refine WL.callC (xs := []) (cap := []) rfl rfl en7 (by repeat (first | exact TakeL.nil | (apply TakeL.cons; · repeat (first | exact Take1.head | apply Take1.tail)))) (fun w hw => known_any w hw.left.here) rfl ?_ -- t28 hailer/hailerlaw39.known
  rintro ⟨⟩ -
  refine WL.y (Yl.not rfl) rfl ?_ -- t29
  refine WL.know (t := 29) (b' := false) rfl (by first | rfl | (simp; done) | (simp; omega)) ?_
  refine WL.nil ?_
  refine WC.condF rfl (by first | rfl | (simp; done) | (simp; omega)) ?_
  refine WC.skip ?_
  refine WC.seq ?_
  refine WC.midE (α := Unit) (fun _ => [(44, .bool (gateL s K l.length))]) (fun _ => [blkR b6 4 [.bool false], rdR (.slice al l.length cl) 1 l.length (ints .u16 l)]) (fun _ => True) ?_ ?_
  · refine WC.region ?_
    refine WL.y (Yl.move rfl) rfl ?_ -- t30
    refine WL.y (Yl.eql rfl rfl) rfl ?_ -- t31
    refine WL.y (Yl.move rfl) rfl ?_ -- t32
    refine WL.both (t := 32) rfl (fun g32 => ?_) (fun g32 => ?_)
    · refine WL.off rfl rfl rfl rfl ?_ -- t33
      refine WL.off rfl rfl rfl rfl ?_ -- t34
      refine WL.y (Yl.pickT rfl rfl) rfl ?_ -- t35
      refine WL.y (Yl.move rfl) rfl ?_ -- t36
      refine WL.off rfl rfl rfl rfl ?_ -- t37
      refine WL.off rfl rfl rfl rfl ?_ -- t38
      refine WL.y (Yl.pickT rfl rfl) rfl ?_ -- t39
      refine WL.y (Yl.move rfl) rfl ?_ -- t40
      refine WL.off rfl rfl rfl rfl ?_ -- t41
      refine WL.off rfl rfl rfl rfl ?_ -- t42
      refine WL.off rfl rfl rfl rfl ?_ -- t43
      refine WL.y (Yl.pickT rfl rfl) rfl ?_ -- t44
      refine WL.say (t := 44) (v' := .bool (gateL s K l.length)) rfl (by (unfold gateL; simp_all <;> (intros; omega))) ?_
      refine WL.nil ?_
      exact ⟨rfl, (), trivial, (by repeat (first | exact Sub.nil | refine Sub.cons rfl ?_)), (by repeat (first | exact Sub.nil | refine Sub.cons rfl ?_)), _, (by repeat (first | exact TakeL.nil | (apply TakeL.cons; · repeat (first | exact Take1.head | apply Take1.tail))))⟩
    · refine WL.on rfl rfl ?_
      refine WL.y (Yl.move rfl) rfl ?_ -- t33
      refine WL.on rfl rfl ?_
      refine WL.y (Yl.eql rfl rfl) rfl ?_ -- t34
      refine WL.y (Yl.pickF rfl rfl) rfl ?_ -- t35
      refine WL.y (Yl.move rfl) rfl ?_ -- t36
      refine WL.both (t := 36) rfl (fun g36 => ?_) (fun g36 => ?_)
      · refine WL.off rfl rfl rfl rfl ?_ -- t37
        refine WL.off rfl rfl rfl rfl ?_ -- t38
        refine WL.y (Yl.pickT rfl rfl) rfl ?_ -- t39
        refine WL.y (Yl.move rfl) rfl ?_ -- t40
        refine WL.off rfl rfl rfl rfl ?_ -- t41
        refine WL.off rfl rfl rfl rfl ?_ -- t42
        refine WL.off rfl rfl rfl rfl ?_ -- t43
        refine WL.y (Yl.pickT rfl rfl) rfl ?_ -- t44
        refine WL.say (t := 44) (v' := .bool (gateL s K l.length)) rfl (by (unfold gateL; simp_all <;> (intros; omega))) ?_
        refine WL.nil ?_
        exact ⟨rfl, (), trivial, (by repeat (first | exact Sub.nil | refine Sub.cons rfl ?_)), (by repeat (first | exact Sub.nil | refine Sub.cons rfl ?_)), _, (by repeat (first | exact TakeL.nil | (apply TakeL.cons; · repeat (first | exact Take1.head | apply Take1.tail))))⟩
      · refine WL.on rfl rfl ?_
        refine WL.y (Yl.move rfl) rfl ?_ -- t37
        refine WL.on rfl rfl ?_
        refine WL.y (Yl.gtr rfl rfl) rfl ?_ -- t38
        refine WL.y (Yl.pickF rfl rfl) rfl ?_ -- t39
        refine WL.y (Yl.move rfl) rfl ?_ -- t40
        refine WL.both (t := 40) rfl (fun g40 => ?_) (fun g40 => ?_)
        · refine WL.off rfl rfl rfl rfl ?_ -- t41
          refine WL.off rfl rfl rfl rfl ?_ -- t42
          refine WL.off rfl rfl rfl rfl ?_ -- t43
          refine WL.y (Yl.pickT rfl rfl) rfl ?_ -- t44
          refine WL.say (t := 44) (v' := .bool (gateL s K l.length)) rfl (by (unfold gateL; simp_all <;> (intros; omega))) ?_
          refine WL.nil ?_
          exact ⟨rfl, (), trivial, (by repeat (first | exact Sub.nil | refine Sub.cons rfl ?_)), (by repeat (first | exact Sub.nil | refine Sub.cons rfl ?_)), _, (by repeat (first | exact TakeL.nil | (apply TakeL.cons; · repeat (first | exact Take1.head | apply Take1.tail))))⟩
        · refine WL.on rfl rfl ?_
          refine WL.y (Yl.move rfl) rfl ?_ -- t41
          refine WL.on rfl rfl ?_
          refine WL.y (Yl.len un68 rfl) rfl ?_ -- t42
          refine WL.on rfl rfl ?_
          refine WL.y (Yl.gtr rfl rfl) rfl ?_ -- t43
          refine WL.y (Yl.pickF rfl rfl) rfl ?_ -- t44
          refine WL.say (t := 44) (v' := .bool (gateL s K l.length)) rfl (by (unfold gateL; simp_all <;> (intros; omega))) ?_
          refine WL.nil ?_
          exact ⟨rfl, (), trivial, (by repeat (first | exact Sub.nil | refine Sub.cons rfl ?_)), (by repeat (first | exact Sub.nil | refine Sub.cons rfl ?_)), _, (by repeat (first | exact TakeL.nil | (apply TakeL.cons; · repeat (first | exact Take1.head | apply Take1.tail))))⟩
  · rintro ⟨⟩ -
    dsimp only [List.cons_append, List.nil_append]
    refine WC.cond rfl (fun g44 => ?_) (fun g44 => ?_)
    · refine WC.seq ?_
      refine WC.region ?_
      refine WL.sto (Sto.one sz4 rfl rfl (by repeat (first | exact Take1.head | apply Take1.tail)) rfl (by rfl) (by rfl)) (fun _ h => nomatch h) ?_ -- st 2
      refine WL.nil ?_
      refine WC.ret ?_
      repeat (first | (with_reducible refine peelT ?_) | (with_reducible refine peelB ?_) | (with_reducible refine peelTX ?_) | (with_reducible refine peelBX ?_) | (with_reducible refine peelBN ?_) | (with_reducible refine peelBO rfl ?_))
      refine retM.of .nil ?_
      exact retV1 (.inr rfl) Try.results6 on4 rfl (by repeat (first | exact Take1.head | apply Take1.tail)) fun w' h => ⟨(), trivial, rfl, h.sub (by repeat (first | exact TakeL.nil | (apply TakeL.cons; · repeat (first | exact Take1.head | apply Take1.tail))))⟩
    · refine WC.skip ?_
      refine WC.seq ?_
      obtain ⟨⟨⟨hn0, hs0⟩, hs1⟩, hl3⟩ : ((¬ (K : Int) = 0 ∧ ¬ s = 0) ∧ ¬ 1000 < s) ∧ ¬ 300 < (l.length : Int) := by
        unfold gateL at g44
        simp only [Bool.or_eq_false_iff, decide_eq_false_iff_not] at g44
        exact g44
      have hs' : 0 ≤ s ∧ s ≤ 1000 := ⟨hs.1, by omega⟩
      have hsu := hs.1
      have hK0 : 0 < K := by omega
      refine WC.region ?_
      refine WL.y (Yl.move rfl) rfl ?_ -- t45
      refine WL.y (Yl.conv un5 un22 rfl (wr_in (by omega))) rfl ?_ -- t46
      refine WL.y (Yl.assign rfl) rfl ?_ -- t7
      refine WL.nil ?_
      refine WC.seq ?_
      refine WC.region ?_
      refine WL.y (Yl.move rfl) rfl ?_ -- t48
      refine WL.callC (xs := [_, .tmp 48]) (cap := []) rfl rfl en24 (by repeat (first | exact TakeL.nil | (apply TakeL.cons; · repeat (first | exact Take1.head | apply Take1.tail)))) (fun w hw => newV_any 1000000 s ⟨by omega, by omega⟩ ⟨by omega, by omega⟩ w hw.left.here) rfl ?_ -- t49 hailer/jitter.New[uint64]
      rintro ⟨ba, ma⟩ -
      dsimp only [jb, List.cons_append, List.nil_append]
      refine WL.y (Yl.move rfl) rfl ?_ -- t47
      refine WL.y (Yl.extract rfl rfl) rfl ?_ -- t50
      refine WL.y (Yl.extract rfl rfl) rfl ?_ -- t51
      refine WL.y (Yl.assign rfl) rfl ?_ -- t8
      refine WL.y (Yl.assign rfl) rfl ?_ -- t9
      refine WL.nil ?_
      refine WC.seq ?_
      refine WC.region ?_
      refine WL.y (Yl.move rfl) rfl ?_ -- t53
      refine WL.callC (xs := [_, .tmp 53]) (cap := []) rfl rfl en24 (by repeat (first | exact TakeL.nil | (apply TakeL.cons; · repeat (first | exact Take1.head | apply Take1.tail)))) (fun w hw => newV_any 1000000 s ⟨by omega, by omega⟩ ⟨by omega, by omega⟩ w hw.left.here) rfl ?_ -- t54 hailer/jitter.New[uint64]
      rintro ⟨bb, mb⟩ -
      dsimp only [jb, List.cons_append, List.nil_append]
      refine WL.y (Yl.move rfl) rfl ?_ -- t52
      refine WL.y (Yl.extract rfl rfl) rfl ?_ -- t55
      refine WL.y (Yl.extract rfl rfl) rfl ?_ -- t56
      refine WL.to (To.alloc (cs := [.pointer none]) zr69 rfl) rfl ?_ -- t10
      intro b10
      refine WL.sto (Sto.one sz69 rfl rfl (by repeat (first | exact Take1.head | apply Take1.tail)) rfl (by rfl) (by rfl)) (fun _ h => nomatch h) ?_ -- st 3
      refine WL.y (Yl.assign rfl) rfl ?_ -- t11
      refine WL.nil ?_
      refine WC.seq ?_
      refine WC.seq ?_
      refine WC.region ?_
      refine WL.y (Yl.move rfl) rfl ?_ -- t57
      refine WL.y (Yl.neq rfl rfl) rfl ?_ -- t58
      refine WL.know (t := 58) (b' := false) rfl (by first | rfl | (simp; done) | (simp; omega)) ?_
      refine WL.y (Yl.move rfl) rfl ?_ -- t59
      refine WL.on rfl rfl ?_
      refine WL.y (Yl.move rfl) rfl ?_ -- t60
      refine WL.on rfl rfl ?_
      refine WL.y (Yl.neq rfl rfl) rfl ?_ -- t61
      refine WL.know (t := 61) (b' := false) rfl (by first | rfl | (simp; done) | (simp; omega)) ?_
      refine WL.y (Yl.pickF rfl rfl) rfl ?_ -- t62
      refine WL.know (t := 62) (b' := false) rfl (by first | rfl | (simp; done) | (simp; omega)) ?_
      refine WL.nil ?_
      refine WC.condF rfl (by first | rfl | (simp; done) | (simp; omega)) ?_
      refine WC.skip ?_
      refine WC.seq ?_
      refine WC.seq ?_
      refine WC.region ?_
      refine WL.y (Yl.move rfl) rfl ?_ -- t63
      refine WL.y (Yl.move rfl) rfl ?_ -- t64
      refine WL.nil ?_
      refine WC.block ?_
      refine WC.loop (α := Nat × Jb) (fun p => [(0, .int .u64 s), (2, .slice al l.length cl), (6, .pointer (some ⟨b6, 0, none⟩)), (7, .int .u64 (K : Int)), (8, .pointer (some ⟨ba, 0, none⟩)), (10, .pointer (some ⟨b10, 0, none⟩)), (63, .int .u64 (K : Int)), (64, .int .u64 (p.1 : Int))]) (fun p => [blkR b6 4 [.bool false], blkR b10 69 [.pointer (some ⟨bb, 0, none⟩)], blkR ba 115 (p.2.cells ma), mapR (Value.int .u64) vI ma p.2.m, blkR bb 115 ((Jb.init 1000000 s).cells mb), mapR (Value.int .u64) vI mb (Jb.init 1000000 s).m, rdR (.slice al l.length cl) 1 l.length (ints .u16 l)]) (fun p => p.1 ≤ K ∧ AS s K p.1 p.2) (fun p => K - p.1) (0, Jb.init 1000000 s) ⟨Nat.zero_le _, .inl ⟨rfl, rfl, hs⟩⟩ ⟨(by repeat (first | exact Sub.nil | refine Sub.cons rfl ?_)), _, (by repeat (first | exact TakeL.nil | (apply TakeL.cons; · repeat (first | exact Take1.head | apply Take1.tail))))⟩ ?_
      rintro ⟨i, A⟩ ⟨hi, hA⟩
      dsimp only at hi hA ⊢
      refine WC.seq ?_
      refine WC.region ?_
      refine WL.y (Yl.lss rfl rfl) rfl ?_ -- t65
      refine WL.nil ?_
      refine WC.seq ?_
      refine WC.condD rfl (fun g65 => ?_) (fun g65 => ?_)
      · refine WC.skip ?_
        refine WC.seq ?_
        refine WC.block ?_
        refine WC.seq ?_
        refine WC.region ?_
        refine WL.y (Yl.move rfl) rfl ?_ -- t66
        refine WL.y (Yl.assign rfl) rfl ?_ -- t12
        refine WL.nil ?_
        refine WC.seq ?_
        refine WC.region ?_
        refine WL.y (Yl.move rfl) rfl ?_ -- t67
        have hiK : i < K := by omega
        obtain ⟨hp1, hp2⟩ := hA.put (by omega) (by omega)
        refine WL.y (Yl.move rfl) rfl ?_ -- t68
        refine WL.y (Yl.move rfl) rfl ?_ -- t69
        refine WL.callC (xs := [.tmp 67, .tmp 68, _, .tmp 69]) (cap := []) rfl rfl en25 (by repeat (first | exact TakeL.nil | (apply TakeL.cons; · repeat (first | exact Take1.head | apply Take1.tail)))) (fun w hw => putV_any ba ma A (i : Int) 5 (vU i) hA.ok ⟨by omega, by omega⟩ ⟨by omega, by omega⟩ w hw.left.here) rfl ?_ -- t70 (*hailer/jitter.Buffer[uint64]).Put
        rintro ⟨⟩ -
        rw [hp1]
        dsimp only [jb, List.cons_append, List.nil_append]
        refine WL.y (Yl.neq rfl rfl) rfl ?_ -- t71
        refine WL.know (t := 71) (b' := false) rfl (by first | rfl | (simp; done) | (simp; omega)) ?_
        refine WL.nil ?_
        refine WC.condF rfl (by first | rfl | (simp; done) | (simp; omega)) ?_
        refine WC.skip ?_
        refine WC.region ?_
        refine WL.y (Yl.add rfl rfl rfl) rfl ?_ -- t72
        refine WL.say (t := 72) (v' := .int .u64 ((i + 1 : Nat) : Int)) rfl (by exact up_in hiK hK) ?_
        refine WL.y (Yl.move rfl) rfl ?_ -- t64
        refine WL.nil ?_
        exact ⟨rfl, (i + 1, (A.put i 5 (vU i)).1), ⟨by dsimp only; omega, hp2⟩, by dsimp only; omega, (by repeat (first | exact Sub.nil | refine Sub.cons rfl ?_)), _, (by repeat (first | exact TakeL.nil | (apply TakeL.cons; · repeat (first | exact Take1.head | apply Take1.tail))))⟩
      · refine WC.exit ?_
        refine WC.seq ?_
        have hiK : i = K := by omega
        subst hiK
        have hAP : Pl s i 0 A := by
          rcases hA with ⟨h, _⟩ | ⟨_, h1, h2, _⟩
          · omega
          · exact h1.pl h2
        obtain ⟨hB1, hB2, _⟩ := fl0 (s := s) (n := (i : Int)) hs (by omega)
        refine WC.region ?_
        refine WL.y (Yl.load on69 rfl (by repeat (first | exact Take1.head | apply Take1.tail)) (by rfl)) rfl ?_ -- t73
        refine WL.callC (xs := [.tmp 73, _, _, _]) (cap := []) rfl rfl en25 (by repeat (first | exact TakeL.nil | (apply TakeL.cons; · repeat (first | exact Take1.head | apply Take1.tail)))) (fun w hw => putV_any bb mb (Jb.init 1000000 s) 0 5 (vU 0) (Jb.init_ok ⟨by omega, by omega⟩ hs) U6_0 ⟨by omega, by omega⟩ w hw.left.here) rfl ?_ -- t74 (*hailer/jitter.Buffer[uint64]).Put
        rintro ⟨⟩ -
        dsimp only [jb, List.cons_append, List.nil_append]
        refine WL.nil ?_
        refine WC.seq ?_
        refine WC.seq ?_
        refine WC.region ?_
        refine WL.y (Yl.move rfl) rfl ?_ -- t75
        refine WL.y (Yl.len un68 rfl) rfl ?_ -- t76
        refine WL.y (Yl.move rfl) rfl ?_ -- t77
        refine WL.nil ?_
        refine WC.block ?_
        refine WC.loop (α := Nat × Jb) (fun p => [(0, .int .u64 s), (6, .pointer (some ⟨b6, 0, none⟩)), (7, .int .u64 (i : Int)), (8, .pointer (some ⟨ba, 0, none⟩)), (10, .pointer (some ⟨b10, 0, none⟩)), (75, .slice al l.length cl), (76, .int .i64 (l.length : Int)), (77, .int .i64 (p.1 : Int))]) (fun p => [blkR b6 4 [.bool false], blkR b10 69 [.pointer (some ⟨bb, 0, none⟩)], blkR ba 115 (A.cells ma), mapR (Value.int .u64) vI ma A.m, blkR bb 115 (p.2.cells mb), mapR (Value.int .u64) vI mb p.2.m, rdR (.slice al l.length cl) 1 l.length (ints .u16 l)]) (fun p => p.1 ≤ l.length ∧ Fl s i p.2) (fun p => l.length - p.1) (0, ((Jb.init 1000000 s).put 0 5 (vU 0)).1) ⟨Nat.zero_le _, hB1⟩ ⟨(by repeat (first | exact Sub.nil | refine Sub.cons rfl ?_)), _, (by repeat (first | exact TakeL.nil | (apply TakeL.cons; · repeat (first | exact Take1.head | apply Take1.tail))))⟩ ?_
        rintro ⟨j, B⟩ ⟨hj, hB⟩
        dsimp only at hj hB ⊢
        refine WC.seq ?_
        refine WC.region ?_
        refine WL.y (Yl.lss rfl rfl) rfl ?_ -- t78
        refine WL.nil ?_
        refine WC.seq ?_
        refine WC.condD rfl (fun g78 => ?_) (fun g78 => ?_)
        · refine WC.skip ?_
          refine WC.seq ?_
          refine WC.block ?_
          refine WC.seq ?_
          refine WC.region ?_
          have hjl : j < l.length := by omega
          obtain ⟨q, hq0⟩ : ∃ q, l[j]? = some q := ⟨_, List.getElem?_eq_getElem hjl⟩
          have hq := hl q (List.mem_of_getElem? hq0)
          have hr0 : 0 ≤ q % (i : Int) := Int.emod_nonneg _ (by omega)
          have hr1 : q % (i : Int) < (i : Int) := Int.emod_lt_of_pos _ (by omega)
          obtain ⟨f1, _, _, _⟩ := flP hB (c := q % (i : Int)) (now := 6) ⟨hr0, hr1⟩ (by omega) ⟨by omega, by omega⟩
          refine WL.y (Yl.index un68 sz73 rfl rfl (Reads.of (r := rdR (.slice al l.length cl) 1 l.length (ints .u16 l)) RdOf.rd' (by repeat (first | exact Take1.head | apply Take1.tail))) rfl (by omega)) rfl ?_ -- t79
          refine WL.y (Yl.loadE (u := .int .u16 q) on73 rfl (Reads.of (r := rdR (.slice al l.length cl) 1 l.length (ints .u16 l)) RdOf.rd' (by repeat (first | exact Take1.head | apply Take1.tail))) (by simp [ints, hq0])) rfl ?_
          refine WL.y (Yl.assign rfl) rfl ?_ -- t14
          refine WL.nil ?_
          refine WC.drawAny (Hs := [blkR b10 69 [.pointer (some ⟨bb, 0, none⟩)]]) mixed (by kernel_rfl) ⟨_, (by repeat (first | exact TakeL.nil | (apply TakeL.cons; · repeat (first | exact Take1.head | apply Take1.tail))))⟩ ?_
          refine WD.take 0 rfl (by kernel_rfl) (by kernel_rfl) (by kernel_rfl) rfl rfl (Yl.load on69 rfl (by repeat (first | exact Take1.head | apply Take1.tail)) (by rfl)) rfl ?_ -- t81
          refine WD.take 1 rfl (by kernel_rfl) (by kernel_rfl) (by kernel_rfl) rfl rfl (Yl.move rfl) rfl ?_ -- t82
          refine WD.take 2 rfl (by kernel_rfl) (by kernel_rfl) (by kernel_rfl) rfl rfl (Yl.conv un73 un22 rfl (wr_in (by omega))) rfl ?_ -- t83
          refine WD.take 3 rfl (by kernel_rfl) (by kernel_rfl) (by kernel_rfl) rfl rfl (Yl.move rfl) rfl ?_ -- t84
          refine WD.take 4 rfl (by kernel_rfl) (by kernel_rfl) (by kernel_rfl) rfl rfl (Yl.rem rfl rfl (by omega) (Int.tmod_eq_emod_of_nonneg hq.1)) rfl ?_
          refine WD.take 5 rfl (by kernel_rfl) (by kernel_rfl) (by kernel_rfl) rfl rfl (Yl.move rfl) rfl ?_ -- t86
          refine WD.take 6 rfl (by kernel_rfl) (by kernel_rfl) (by kernel_rfl) rfl rfl (Yl.conv un73 un22 rfl (wr_in (by omega))) rfl ?_ -- t87
          refine WD.take 7 rfl (by kernel_rfl) (by kernel_rfl) (by kernel_rfl) rfl rfl (Yl.move rfl) rfl ?_ -- t88
          refine WD.take 8 rfl (by kernel_rfl) (by kernel_rfl) (by kernel_rfl) rfl rfl (Yl.rem rfl rfl (by omega) (Int.tmod_eq_emod_of_nonneg hq.1)) rfl ?_
          refine WD.one 9 (by kernel_rfl) ?_
          refine WO.callC (xs := [.tmp 81, .tmp 85, _, .tmp 89]) (cap := []) rfl .no rfl rfl en25 (by repeat (first | exact TakeL.nil | (apply TakeL.cons; · repeat (first | exact Take1.head | apply Take1.tail)))) (fun w hw => putV_any bb mb B (q % (i : Int)) 6 (vU (q % (i : Int))) hB.ok ⟨hr0, by omega⟩ ⟨by omega, by omega⟩ w hw.left.here) rfl (fun _ => ⟨_, (by repeat (first | exact TakeL.nil | (apply TakeL.cons; · repeat (first | exact Take1.head | apply Take1.tail))))⟩) ?_ -- t90 (*hailer/jitter.Buffer[uint64]).Put
          rintro ⟨⟩ -
          dsimp only [jb, List.cons_append, List.nil_append]
          refine WD.done (by kernel_rfl) ?_
          refine WC.region ?_
          refine WL.y (Yl.add rfl rfl (IntWalk.i64_in _ (by omega))) rfl ?_ -- t91
          refine WL.y (Yl.move rfl) rfl ?_ -- t77
          refine WL.nil ?_
          exact ⟨rfl, (j + 1, (B.put (q % (i : Int)) 6 (vU (q % (i : Int)))).1), ⟨by dsimp only; omega, f1⟩, by dsimp only; omega, (by repeat (first | exact Sub.nil | refine Sub.cons rfl ?_)), _, (by repeat (first | exact TakeL.nil | (apply TakeL.cons; · repeat (first | exact Take1.head | apply Take1.tail))))⟩
        · refine WC.exit ?_
          refine WC.seq ?_
          refine WC.seq ?_
          refine WC.region ?_
          refine WL.y (Yl.move rfl) rfl ?_ -- t92
          refine WL.y (Yl.move rfl) rfl ?_ -- t93
          refine WL.nil ?_
          refine WC.block ?_
          refine WC.loop (α := Nat × Jb) (fun p => [(0, .int .u64 s), (6, .pointer (some ⟨b6, 0, none⟩)), (7, .int .u64 (i : Int)), (8, .pointer (some ⟨ba, 0, none⟩)), (10, .pointer (some ⟨b10, 0, none⟩)), (92, .int .u64 (i : Int)), (93, .int .u64 (p.1 : Int))]) (fun p => [blkR b6 4 [.bool false], blkR b10 69 [.pointer (some ⟨bb, 0, none⟩)], blkR ba 115 (A.cells ma), mapR (Value.int .u64) vI ma A.m, blkR bb 115 (p.2.cells mb), mapR (Value.int .u64) vI mb p.2.m, rdR (.slice al l.length cl) 1 l.length (ints .u16 l)]) (fun p => p.1 ≤ i ∧ Fl s i p.2 ∧ ∀ j : Int, (i : Int) - p.1 ≤ j → j < i → (mget p.2.m j).isSome = true) (fun p => i - p.1) (0, B) ⟨Nat.zero_le _, hB, fun j h1 h2 => by dsimp only at h1; omega⟩ ⟨(by repeat (first | exact Sub.nil | refine Sub.cons rfl ?_)), _, (by repeat (first | exact TakeL.nil | (apply TakeL.cons; · repeat (first | exact Take1.head | apply Take1.tail))))⟩ ?_
          rintro ⟨k, C⟩ ⟨hk, hC, hCa⟩
          dsimp only at hk hC hCa ⊢
          refine WC.seq ?_
          refine WC.region ?_
          refine WL.y (Yl.lss rfl rfl) rfl ?_ -- t94
          refine WL.nil ?_
          refine WC.seq ?_
          refine WC.condD rfl (fun g94 => ?_) (fun g94 => ?_)
          · refine WC.skip ?_
            refine WC.seq ?_
            refine WC.block ?_
            refine WC.seq ?_
            refine WC.region ?_
            refine WL.y (Yl.move rfl) rfl ?_ -- t95
            refine WL.y (Yl.assign rfl) rfl ?_ -- t15
            refine WL.nil ?_
            refine WC.region ?_
            have hki : k < i := by omega
            obtain ⟨f1, f2, f3, _⟩ := flP hC (c := (i : Int) - 1 - k) (now := 7) ⟨by omega, by omega⟩ (by omega) ⟨by omega, by omega⟩
            refine WL.y (Yl.load on69 rfl (by repeat (first | exact Take1.head | apply Take1.tail)) (by rfl)) rfl ?_ -- t96
            refine WL.y (Yl.move rfl) rfl ?_ -- t97
            refine WL.y (Yl.sub rfl rfl rfl) rfl ?_ -- t98
            refine WL.say (t := 98) (v' := .int .u64 ((i : Int) - 1)) rfl (by exact congrArg _ (wr_in ⟨by omega, by omega⟩)) ?_
            refine WL.y (Yl.move rfl) rfl ?_ -- t99
            refine WL.y (Yl.sub rfl rfl rfl) rfl ?_ -- t100
            refine WL.say (t := 100) (v' := .int .u64 ((i : Int) - 1 - k)) rfl (by exact congrArg _ (wr_in ⟨by omega, by omega⟩)) ?_
            refine WL.y (Yl.move rfl) rfl ?_ -- t101
            refine WL.y (Yl.sub rfl rfl rfl) rfl ?_ -- t102
            refine WL.say (t := 102) (v' := .int .u64 ((i : Int) - 1)) rfl (by exact congrArg _ (wr_in ⟨by omega, by omega⟩)) ?_
            refine WL.y (Yl.move rfl) rfl ?_ -- t103
            refine WL.y (Yl.sub rfl rfl rfl) rfl ?_ -- t104
            refine WL.say (t := 104) (v' := .int .u64 ((i : Int) - 1 - k)) rfl (by exact congrArg _ (wr_in ⟨by omega, by omega⟩)) ?_
            refine WL.callC (xs := [.tmp 96, .tmp 100, _, .tmp 104]) (cap := []) rfl rfl en25 (by repeat (first | exact TakeL.nil | (apply TakeL.cons; · repeat (first | exact Take1.head | apply Take1.tail)))) (fun w hw => putV_any bb mb C ((i : Int) - 1 - k) 7 (vU ((i : Int) - 1 - k)) hC.ok ⟨by omega, by omega⟩ ⟨by omega, by omega⟩ w hw.left.here) rfl ?_ -- t105 (*hailer/jitter.Buffer[uint64]).Put
            rintro ⟨⟩ -
            dsimp only [jb, List.cons_append, List.nil_append]
            refine WL.nil ?_
            refine WC.region ?_
            refine WL.y (Yl.add rfl rfl rfl) rfl ?_ -- t106
            refine WL.say (t := 106) (v' := .int .u64 ((k + 1 : Nat) : Int)) rfl (by exact up_in hki hK) ?_
            refine WL.y (Yl.move rfl) rfl ?_ -- t93
            refine WL.nil ?_
            exact ⟨rfl, (k + 1, (C.put ((i : Int) - 1 - k) 7 (vU ((i : Int) - 1 - k))).1), ⟨by dsimp only; omega, f1, fun j h1 h2 => by
              dsimp only at h1 ⊢
              by_cases e : j = (i : Int) - 1 - k
              · rw [e]; exact f3
              · exact f2 j (hCa j (by omega) h2)⟩, by dsimp only; omega, (by repeat (first | exact Sub.nil | refine Sub.cons rfl ?_)), _, (by repeat (first | exact TakeL.nil | (apply TakeL.cons; · repeat (first | exact Take1.head | apply Take1.tail))))⟩
          · refine WC.exit ?_
            refine WC.seq ?_
            have hki : k = i := by omega
            have hCP : Pl s i 0 C := hC.pl (fun j h1 h2 => hCa j (by omega) h2)
            have hmb := mul_bd (a := (i : Int) - 1) ⟨by omega, by omega⟩ hs'
            have hPS := playK hAP hK hs'
            refine WC.region ?_
            refine WL.y (Yl.move rfl) rfl ?_ -- t107
            refine WL.y (Yl.sub rfl rfl rfl) rfl ?_ -- t108
            refine WL.say (t := 108) (v' := .int .u64 ((i : Int) - 1)) rfl (by exact congrArg _ (wr_in ⟨by omega, by omega⟩)) ?_
            refine WL.y (Yl.move rfl) rfl ?_ -- t109
            refine WL.y (Yl.mul rfl rfl rfl) rfl ?_ -- t110
            refine WL.say (t := 110) (v' := .int .u64 (((i : Int) - 1) * s)) rfl (by exact congrArg _ (wr_in ⟨by omega, by omega⟩)) ?_
            refine WL.y (Yl.add rfl rfl rfl) rfl ?_ -- t111
            refine WL.say (t := 111) (v' := .int .u64 (1000005 + ((i : Int) - 1) * s)) rfl (by exact congrArg _ (wr_in ⟨by omega, by omega⟩)) ?_
            refine WL.to (To.alloc (cs := [.int .u64 0]) zr22 rfl) rfl ?_ -- t16
            intro b16
            refine WL.sto (Sto.one sz22 rfl rfl (by repeat (first | exact Take1.head | apply Take1.tail)) rfl (by rfl) (by rfl)) (fun _ h => nomatch h) ?_ -- st 6
            refine WL.nil ?_
            refine WC.seq ?_
            refine WC.region ?_
            refine WL.to (To.alloc (cs := [.int .u64 0]) zr22 rfl) rfl ?_ -- t17
            intro b17
            refine WL.sto (Sto.one sz22 rfl rfl (by repeat (first | exact Take1.head | apply Take1.tail)) rfl (by rfl) (by rfl)) (fun _ h => nomatch h) ?_ -- st 7
            refine WL.nil ?_
            refine WC.seq ?_
            refine WC.seq ?_
            refine WC.region ?_
            refine WL.y (Yl.move rfl) rfl ?_ -- t112
            refine WL.y (Yl.load on22 rfl (by repeat (first | exact Take1.head | apply Take1.tail)) (by rfl)) rfl ?_ -- t113
            refine WL.callC (xs := [.tmp 112, .tmp 113]) (cap := []) rfl rfl en26 (by repeat (first | exact TakeL.nil | (apply TakeL.cons; · repeat (first | exact Take1.head | apply Take1.tail)))) (fun w hw => playV_any ba (1000005 + ((i : Int) - 1) * s) w hw.left.here) rfl ?_ -- t114 (*hailer/jitter.Buffer[uint64]).Play
            rintro ⟨bp, bq⟩ -
            dsimp only [List.cons_append, List.nil_append]
            refine WL.nil ?_
            refine WC.block ?_
            refine WC.rangeW (α := Jb) (A := plR 69 115 22 bp bq ba ma (1000005 + ((i : Int) - 1) * s) A) (E := plR 69 115 22 bp bq ba ma (1000005 + ((i : Int) - 1) * s) (gK A i)) (Ex := fun k => plR 69 115 22 bp bq ba ma (1000005 + ((i : Int) - 1) * s) (gK A (id k + 1))) (lb := [.pointer (some ⟨bp, 0, none⟩), .pointer (some ⟨bq, 0, none⟩)]) (xs := ysK i) (fun k B => [blkR b6 4 [.bool false], blkR b10 69 [.pointer (some ⟨bb, 0, none⟩)], blkR b16 22 [.int .u64 (1000005 + ((i : Int) - 1) * s)], blkR b17 22 [.int .u64 (k : Int)], blkR bb 115 (B.cells mb), mapR (Value.int .u64) vI mb B.m]) (fun k B => Pl s i k B) C rfl en50 ysK_size rfl (by repeat (first | exact TakeL.nil | (apply TakeL.cons; · repeat (first | exact Take1.head | apply Take1.tail)))) (play1V_iter bp bq ba ma _ hPS) rfl (fun _ => rfl) hCP (by repeat (first | exact TakeL.nil | (apply TakeL.cons; · repeat (first | exact Take1.head | apply Take1.tail)))) ?_ ?_
            · rintro l2 k x B hx hP W
              dsimp only at hP ⊢
              obtain ⟨hki2, rfl⟩ := ysK_at hx
              obtain ⟨hn1, hn2⟩ := hP.next ⟨by omega, by omega⟩ (by omega) hs' (.int .u64 0)
              show WC _ _ _ ((116, .int .u64 (k : Int)) :: (115, .int .u64 (k : Int)) :: _) _ _
              refine WC.seq ?_
              refine WC.region ?_
              refine WL.y (Yl.assign rfl) rfl ?_ -- t18
              refine WL.nil ?_
              refine WC.region ?_
              refine WL.y (Yl.assign rfl) rfl ?_ -- t19
              refine WL.nil ?_
              repeat (first | (with_reducible refine peelT ?_) | (with_reducible refine peelB ?_) | (with_reducible refine peelTX ?_) | (with_reducible refine peelBX ?_) | (with_reducible refine peelBN ?_) | (with_reducible refine peelBO rfl ?_))
              refine fun W2 => ?_
              refine WC.block ?_
              refine WC.seq ?_
              refine WC.region ?_
              refine WL.y (Yl.load on69 rfl (by repeat (first | exact Take1.head | apply Take1.tail)) (by rfl)) rfl ?_ -- t118
              refine WL.y (Yl.load on22 rfl (by repeat (first | exact Take1.head | apply Take1.tail)) (by rfl)) rfl ?_ -- t119
              refine WL.callC (xs := [.tmp 118, .tmp 119]) (cap := []) rfl rfl en27 (by repeat (first | exact TakeL.nil | (apply TakeL.cons; · repeat (first | exact Take1.head | apply Take1.tail)))) (fun w hw => nextV_any bb mb B (1000005 + ((i : Int) - 1) * s) hP.ok w hw.left.here) rfl ?_ -- t120 (*hailer/jitter.Buffer[uint64]).Next
              rintro ⟨⟩ -
              rw [hn1]
              dsimp only [jb, vU, List.cons_append, List.nil_append]
              refine WL.y (Yl.move rfl) rfl ?_ -- t117
              refine WL.y (Yl.extract rfl rfl) rfl ?_ -- t121
              refine WL.y (Yl.extract rfl rfl) rfl ?_ -- t122
              refine WL.y (Yl.extract rfl rfl) rfl ?_ -- t123
              refine WL.y (Yl.extract rfl rfl) rfl ?_ -- t124
              refine WL.y (Yl.assign rfl) rfl ?_ -- t20
              refine WL.y (Yl.assign rfl) rfl ?_ -- t21
              refine WL.y (Yl.assign rfl) rfl ?_ -- t22
              refine WL.y (Yl.assign rfl) rfl ?_ -- t23
              refine WL.nil ?_
              refine WC.seq ?_
              refine WC.seq ?_
              refine WC.region ?_
              refine WL.y (Yl.move rfl) rfl ?_ -- t125
              refine WL.y (Yl.load on22 rfl (by repeat (first | exact Take1.head | apply Take1.tail)) (by rfl)) rfl ?_ -- t126
              refine WL.y (Yl.neq rfl rfl) rfl ?_ -- t127
              refine WL.know (t := 127) (b' := false) rfl (by simp) ?_
              refine WL.y (Yl.move rfl) rfl ?_ -- t128
              refine WL.on rfl rfl ?_
              refine WL.y (Yl.move rfl) rfl ?_ -- t129
              refine WL.on rfl rfl ?_
              refine WL.y (Yl.load on22 rfl (by repeat (first | exact Take1.head | apply Take1.tail)) (by rfl)) rfl ?_ -- t130
              refine WL.on rfl rfl ?_
              refine WL.y (Yl.neq rfl rfl) rfl ?_ -- t131
              refine WL.know (t := 131) (b' := false) rfl (by simp) ?_
              refine WL.y (Yl.pickF rfl rfl) rfl ?_ -- t132
              refine WL.y (Yl.move rfl) rfl ?_ -- t133
              refine WL.on rfl rfl ?_
              refine WL.y (Yl.move rfl) rfl ?_ -- t134
              refine WL.on rfl rfl ?_
              refine WL.y (Yl.move rfl) rfl ?_ -- t135
              refine WL.on rfl rfl ?_
              refine WL.y (Yl.neq rfl rfl) rfl ?_ -- t136
              refine WL.know (t := 136) (b' := false) rfl (by simp) ?_
              refine WL.y (Yl.pickF rfl rfl) rfl ?_ -- t137
              refine WL.y (Yl.move rfl) rfl ?_ -- t138
              refine WL.on rfl rfl ?_
              refine WL.y (Yl.move rfl) rfl ?_ -- t139
              refine WL.on rfl rfl ?_
              refine WL.y (Yl.move rfl) rfl ?_ -- t140
              refine WL.on rfl rfl ?_
              refine WL.y (Yl.neq rfl rfl) rfl ?_ -- t141
              refine WL.know (t := 141) (b' := false) rfl (by simp) ?_
              refine WL.y (Yl.pickF rfl rfl) rfl ?_ -- t142
              refine WL.y (Yl.move rfl) rfl ?_ -- t143
              refine WL.on rfl rfl ?_
              refine WL.y (Yl.move rfl) rfl ?_ -- t144
              refine WL.y (Yl.pickF rfl rfl) rfl ?_ -- t145
              refine WL.know (t := 145) (b' := false) rfl (by first | rfl | (simp; done) | (simp; omega)) ?_
              refine WL.y (Yl.move rfl) rfl ?_ -- t146
              refine WL.on rfl rfl ?_
              refine WL.y (Yl.move rfl) rfl ?_ -- t147
              refine WL.on rfl rfl ?_
              refine WL.y (Yl.not rfl) rfl ?_ -- t148
              refine WL.know (t := 148) (b' := false) rfl (by first | rfl | (simp; done) | (simp; omega)) ?_
              refine WL.y (Yl.pickF rfl rfl) rfl ?_ -- t149
              refine WL.know (t := 149) (b' := false) rfl (by first | rfl | (simp; done) | (simp; omega)) ?_
              refine WL.nil ?_
              refine WC.condF rfl (by first | rfl | (simp; done) | (simp; omega)) ?_
              refine WC.skip ?_
              refine WC.region ?_
              refine WL.y (Yl.load on22 rfl (by repeat (first | exact Take1.head | apply Take1.tail)) (by rfl)) rfl ?_ -- t150
              refine WL.y (Yl.add rfl rfl rfl) rfl ?_ -- t151
              refine WL.say (t := 151) (v' := .int .u64 ((k + 1 : Nat) : Int)) rfl (by exact up_in hki2 hK) ?_
              refine WL.sto (Sto.one sz22 rfl rfl (by repeat (first | exact Take1.head | apply Take1.tail)) rfl (by rfl) (by rfl)) (fun _ h => nomatch h) ?_ -- st 9
              refine WL.nil ?_
              repeat (first | (with_reducible refine peelT ?_) | (with_reducible refine peelB ?_) | (with_reducible refine peelTX ?_) | (with_reducible refine peelBX ?_) | (with_reducible refine peelBN ?_) | (with_reducible refine peelBO rfl ?_))
              exact ⟨[blkR b6 4 [.bool false], blkR b10 69 [.pointer (some ⟨bb, 0, none⟩)], blkR b16 22 [.int .u64 (1000005 + ((i : Int) - 1) * s)], blkR b17 22 [.int .u64 ((k + 1 : Nat) : Int)], blkR bb 115 (B.step.cells mb), mapR (Value.int .u64) vI mb B.step.m], _, (by repeat (first | exact TakeL.nil | (apply TakeL.cons; · repeat (first | exact Take1.head | apply Take1.tail)))), B.step, hn2, rfl⟩
            · rintro B D hP
              rw [ysK_len] at hP ⊢
              dsimp only [plR, List.cons_append, List.nil_append]
              refine WC.seq ?_
              refine WC.region ?_
              refine WL.y (Yl.load on69 rfl (by repeat (first | exact Take1.head | apply Take1.tail)) (by rfl)) rfl ?_ -- t153
              refine WL.y (Yl.load on22 rfl (by repeat (first | exact Take1.head | apply Take1.tail)) (by rfl)) rfl ?_ -- t154
              refine WL.callC (xs := [.tmp 153, .tmp 154]) (cap := []) rfl rfl en27 (by repeat (first | exact TakeL.nil | (apply TakeL.cons; · repeat (first | exact Take1.head | apply Take1.tail)))) (fun w hw => nextV_any bb mb B (1000005 + ((i : Int) - 1) * s) hP.ok w hw.left.here) rfl ?_ -- t155 (*hailer/jitter.Buffer[uint64]).Next
              rintro ⟨⟩ -
              rw [hP.done]
              dsimp only [jb, List.cons_append, List.nil_append]
              refine WL.y (Yl.move rfl) rfl ?_ -- t152
              refine WL.y (Yl.extract rfl rfl) rfl ?_ -- t156
              refine WL.y (Yl.extract rfl rfl) rfl ?_ -- t157
              refine WL.y (Yl.extract rfl rfl) rfl ?_ -- t158
              refine WL.y (Yl.extract rfl rfl) rfl ?_ -- t159
              refine WL.y (Yl.assign rfl) rfl ?_ -- t24
              refine WL.y (Yl.assign rfl) rfl ?_ -- t25
              refine WL.y (Yl.assign rfl) rfl ?_ -- t26
              refine WL.y (Yl.assign rfl) rfl ?_ -- t27
              refine WL.nil ?_
              refine WC.seq ?_
              refine WC.region ?_
              refine WL.y (Yl.load on22 rfl (by repeat (first | exact Take1.head | apply Take1.tail)) (by rfl)) rfl ?_ -- t160
              refine WL.y (Yl.move rfl) rfl ?_ -- t161
              refine WL.y (Yl.eql rfl rfl) rfl ?_ -- t162
              refine WL.know (t := 162) (b' := true) rfl (by simp) ?_
              refine WL.y (Yl.move rfl) rfl ?_ -- t163
              refine WL.on rfl rfl ?_
              refine WL.y (Yl.move rfl) rfl ?_ -- t164
              refine WL.on rfl rfl ?_
              refine WL.y (Yl.not rfl) rfl ?_ -- t165
              refine WL.know (t := 165) (b' := true) rfl (by first | rfl | (simp; done) | (simp; omega)) ?_
              refine WL.y (Yl.pickT rfl rfl) rfl ?_ -- t166
              refine WL.know (t := 166) (b' := true) rfl (by first | rfl | (simp; done) | (simp; omega)) ?_
              refine WL.y (Yl.move rfl) rfl ?_ -- t167
              refine WL.on rfl rfl ?_
              refine WL.y (Yl.move rfl) rfl ?_ -- t168
              refine WL.on rfl rfl ?_
              refine WL.callC (xs := [.tmp 168]) (cap := []) rfl rfl en28 (by repeat (first | exact TakeL.nil | (apply TakeL.cons; · repeat (first | exact Take1.head | apply Take1.tail)))) (fun w hw => sumsV_any ba ma (gK A i) w hw.left.here) rfl ?_ -- t169 (*hailer/jitter.Buffer[uint64]).Sums
              rintro ⟨⟩ -
              dsimp only [jb, List.cons_append, List.nil_append]
              refine WL.on rfl rfl ?_
              refine WL.y (Yl.fieldG rfl (v := .int .u64 (gK A i).l) (fun _ => by kernel_rfl)) rfl ?_ -- t170
              refine WL.on rfl rfl ?_
              refine WL.y (Yl.eql rfl rfl) rfl ?_ -- t171
              refine WL.know (t := 171) (b' := true) rfl (decide_eq_true (gK_pl hAP hK hs' i (Nat.le_refl _)).l) ?_
              refine WL.y (Yl.pickT rfl rfl) rfl ?_ -- t172
              refine WL.know (t := 172) (b' := true) rfl (by first | rfl | (simp; done) | (simp; omega)) ?_
              refine WL.sto (Sto.one sz4 rfl rfl (by repeat (first | exact Take1.head | apply Take1.tail)) rfl (by rfl) (by rfl)) (fun _ h => nomatch h) ?_ -- st 10
              refine WL.nil ?_
              refine WC.ret ?_
              repeat (first | (with_reducible refine peelT ?_) | (with_reducible refine peelB ?_) | (with_reducible refine peelTX ?_) | (with_reducible refine peelBX ?_) | (with_reducible refine peelBN ?_) | (with_reducible refine peelBO rfl ?_))
              refine retM.of (.cons (by repeat (first | exact Take1.head | apply Take1.tail)) .nil) ?_
              exact retV1 (.inr rfl) Try.results6 on4 rfl (by repeat (first | exact Take1.head | apply Take1.tail)) fun w' h => ⟨(), trivial, rfl, h.sub (by repeat (first | exact TakeL.nil | (apply TakeL.cons; · repeat (first | exact Take1.head | apply Take1.tail))))⟩
end Go.Proofs.Ytklbmgfpnafdlaa
