/- The reference's round: the walk. -/
import Derived.Test.YtfdnnlcfolgegaaShaC
import Derived.Test.YtfdnnlcfolgegaaShaL
namespace Go.Proofs.Ytfdnnlcfolgegaa
open Go Go.RowKit

theorem cutF_w {x : Int} {bt : Nat} (h : W64 x) : W64 (cutF x bt) := by
  unfold cutF
  split
  · exact h
  · have hp := pow_pos bt
    have h1 := Int.emod_nonneg x (Int.ne_of_gt hp)
    have h2 : x % 2 ^ bt ≤ x := by
      rcases Int.lt_or_le x (2 ^ bt) with hlt | hge
      · rw [Int.emod_eq_of_lt h.1 hlt]; omega
      · have := Int.emod_lt_of_pos x hp; omega
    exact ⟨h1, by have := h.2; omega⟩
theorem ediv_mul' {N a b : Int} (h : 0 ≤ a) : N / (a * b) = N / a / b := Int.ediv_mul_of_nonneg h
/-- The length's bytes as the reference fills them, so many of the last ones. -/
def rlnF (s : Nat) (N : Int) : Nat → List Int
  | 0 => List.replicate s 0
  | i + 1 => (rlnF s N i).set (s - 1 - i) (IntKind.u8.wrap (N / 256 ^ i % 256))
theorem rlnF_len (s : Nat) (N : Int) : ∀ i, (rlnF s N i).length = s
  | 0 => by simp [rlnF]
  | i + 1 => by simp [rlnF, rlnF_len s N i]
def rpadF (z : Nat) (msg : List Int) : List Int := msg ++ ([128] ++ List.replicate (zeroN z msg.length) 0 ++ rlnF (2 * z) (8 * (msg.length : Int)) (2 * z))
def rpF (bt : Nat) (x7 e x5 x6 kk ww : Int) : Int :=
  cutF (IntKind.u64.wrap (IntKind.u64.wrap (IntKind.u64.wrap (IntKind.u64.wrap (x7 + fourF 1 e bt) + bits .xor .u64 (bits .and .u64 e x5) (bits .and .u64 (IntKind.u64.wrap (cutF 18446744073709551615 bt - e)) x6)) + kk) + ww)) bt
def rqF (bt : Nat) (a b c : Int) : Int :=
  cutF (IntKind.u64.wrap (fourF 0 a bt + bits .xor .u64 (bits .xor .u64 (bits .and .u64 a b) (bits .and .u64 a c)) (bits .and .u64 b c))) bt
def rrdF (bt : Nat) (x : List Int) (kk ww : Int) : List Int :=
  match x with
  | [x0, x1, x2, x3, x4, x5, x6, x7] => [cutF (IntKind.u64.wrap (rpF bt x7 x4 x5 x6 kk ww + rqF bt x0 x1 x2)) bt, x0, x1, x2, cutF (IntKind.u64.wrap (x3 + rpF bt x7 x4 x5 x6 kk ww)) bt, x4, x5, x6]
  | x => x
theorem rrdF_len {bt : Nat} {x : List Int} {kk ww : Int} (h : x.length = 8) : (rrdF bt x kk ww).length = 8 := by
  obtain ⟨x0, x1, x2, x3, x4, x5, x6, x7, rfl⟩ := len8 h
  rfl
def WS (L : List Int) : Prop := ∀ x ∈ L, W64 x
theorem WS.at {L : List Int} (h : WS L) (j : Nat) : W64 (L.getD j 0) := by
  rw [List.getD_eq_getElem?_getD]
  cases e : L[j]? with
  | none => exact ⟨by simp, by simp⟩
  | some x => exact h x (List.mem_of_getElem? e)
theorem WS.set {L : List Int} (h : WS L) {j : Nat} {x : Int} (hx : W64 x) : WS (L.set j x) := fun y hy => by
  rcases List.mem_or_eq_of_mem_set hy with h1 | h1
  · exact h y h1
  · exact h1 ▸ hx
theorem WS.app {L M : List Int} (h : WS L) (h2 : WS M) : WS (L ++ M) := fun y hy => (List.mem_append.1 hy).elim (h y) (h2 y)
theorem WS.one {x : Int} (h : W64 x) : WS [x] := fun y hy => by rw [List.mem_singleton.1 hy]; exact h
theorem rrdF_w {bt : Nat} {x : List Int} {kk ww : Int} (h : WS x) : WS (rrdF bt x kk ww) := by
  unfold rrdF
  split
  · simp only [WS, List.mem_cons, List.not_mem_nil, or_false, forall_eq_or_imp, forall_eq] at h ⊢
    exact ⟨cutF_w (u64_wrap _), h.1, h.2.1, h.2.2.1, cutF_w (u64_wrap _), h.2.2.2.2.1, h.2.2.2.2.2.1, h.2.2.2.2.2.2.1⟩
  · exact h

theorem round_any (bt : Nat) (hbt : bt = 32 ∨ bt = 64) (x : List Int) (v : Value) (kk ww : Int) (h8 : x.length = 8) (hxw : WS x) (w : World) (hx : RdS w (fpL []) v 1 8 (ints .u64 x)) (hw : OK w (fpL []) [] w) :
    Fn Try.prog 71 [v, .int .u64 kk, .int .u64 ww, .int .i64 (bt : Int)] [] w (fun _ : Nat => True) (fun b => .slice (some ⟨b, 0, none⟩) 8 8) (fun b => [ownR (.slice (some ⟨b, 0, none⟩) 8 8) 24 1 8 (ints .u64 (rrdF bt x kk ww))]) := by
  obtain ⟨al, cl, rfl, hcl, hml⟩ := hx.rd.form
  obtain ⟨x0, x1, x2, x3, x4, x5, x6, x7, rfl⟩ := len8 h8
  have h0 : W64 x0 := hxw _ (by simp)
  have h4 : W64 x4 := hxw _ (by simp)
  refine enterF Try.func71 rfl Try.ntmps71 rfl hw ?_
  refine WC.seq ?_
  refine WC.region ?_
  refine WL.y (Yl.assign rfl) rfl ?_ -- t8
  refine WL.nil ?_
  refine WC.seq ?_
  refine WC.region ?_
  refine WL.y (Yl.move rfl) rfl ?_ -- t12
  refine WL.callC (xs := [_, .tmp 12]) (cap := []) rfl rfl en69 (by repeat (first | exact TakeL.nil | (apply TakeL.cons; · repeat (first | exact Take1.head | apply Take1.tail)))) (fun w hw => cut_any 18446744073709551615 (by decide) bt (by omega) w hw.left.here) rfl ?_ -- t13 hailer/hailerref01.cut
  rintro ⟨⟩ -
  refine WL.y (Yl.assign rfl) rfl ?_ -- t9
  refine WL.nil ?_
  refine WC.seq ?_
  refine WC.drawAny (Hs := []) mixed (by kernel_rfl) ⟨_, (by repeat (first | exact TakeL.nil | (apply TakeL.cons; · repeat (first | exact Take1.head | apply Take1.tail))))⟩ ?_
  refine WD.take 0 rfl (by kernel_rfl) (by kernel_rfl) (by kernel_rfl) rfl rfl (Yl.move rfl) rfl ?_ -- t14
  refine WD.take 1 rfl (by kernel_rfl) (by kernel_rfl) (by kernel_rfl) rfl rfl (Yl.index (j := 7) un97 sz24 rfl rfl (Reads.s hx) rfl (by omega)) rfl ?_ -- t15
  refine WD.take 2 rfl (by kernel_rfl) (by kernel_rfl) (by kernel_rfl) rfl rfl (Yl.loadE on24 rfl (Reads.s hx) (show _ = some (Value.int .u64 x7) from rfl)) rfl ?_ -- t16
  refine WD.take 3 rfl (by kernel_rfl) (by kernel_rfl) (by kernel_rfl) rfl rfl (Yl.move rfl) rfl ?_ -- t17
  refine WD.take 4 rfl (by kernel_rfl) (by kernel_rfl) (by kernel_rfl) rfl rfl (Yl.index (j := 4) un97 sz24 rfl rfl (Reads.s hx) rfl (by omega)) rfl ?_ -- t18
  refine WD.take 5 rfl (by kernel_rfl) (by kernel_rfl) (by kernel_rfl) rfl rfl (Yl.loadE on24 rfl (Reads.s hx) (show _ = some (Value.int .u64 x4) from rfl)) rfl ?_ -- t19
  refine WD.take 6 rfl (by kernel_rfl) (by kernel_rfl) (by kernel_rfl) rfl rfl (Yl.move rfl) rfl ?_ -- t20
  refine WD.take 9 rfl (by kernel_rfl) (by kernel_rfl) (by kernel_rfl) rfl rfl (Yl.move rfl) rfl ?_ -- t23
  refine WD.take 10 rfl (by kernel_rfl) (by kernel_rfl) (by kernel_rfl) rfl rfl (Yl.index (j := 4) un97 sz24 rfl rfl (Reads.s hx) rfl (by omega)) rfl ?_ -- t24
  refine WD.take 11 rfl (by kernel_rfl) (by kernel_rfl) (by kernel_rfl) rfl rfl (Yl.loadE on24 rfl (Reads.s hx) (show _ = some (Value.int .u64 x4) from rfl)) rfl ?_ -- t25
  refine WD.take 12 rfl (by kernel_rfl) (by kernel_rfl) (by kernel_rfl) rfl rfl (Yl.move rfl) rfl ?_ -- t26
  refine WD.take 13 rfl (by kernel_rfl) (by kernel_rfl) (by kernel_rfl) rfl rfl (Yl.index (j := 5) un97 sz24 rfl rfl (Reads.s hx) rfl (by omega)) rfl ?_ -- t27
  refine WD.take 14 rfl (by kernel_rfl) (by kernel_rfl) (by kernel_rfl) rfl rfl (Yl.loadE on24 rfl (Reads.s hx) (show _ = some (Value.int .u64 x5) from rfl)) rfl ?_ -- t28
  refine WD.take 15 rfl (by kernel_rfl) (by kernel_rfl) (by kernel_rfl) rfl rfl (Yl.and rfl rfl) rfl ?_ -- t29
  refine WD.take 16 rfl (by kernel_rfl) (by kernel_rfl) (by kernel_rfl) rfl rfl (Yl.move rfl) rfl ?_ -- t30
  refine WD.take 17 rfl (by kernel_rfl) (by kernel_rfl) (by kernel_rfl) rfl rfl (Yl.move rfl) rfl ?_ -- t31
  refine WD.take 18 rfl (by kernel_rfl) (by kernel_rfl) (by kernel_rfl) rfl rfl (Yl.index (j := 4) un97 sz24 rfl rfl (Reads.s hx) rfl (by omega)) rfl ?_ -- t32
  refine WD.take 19 rfl (by kernel_rfl) (by kernel_rfl) (by kernel_rfl) rfl rfl (Yl.loadE on24 rfl (Reads.s hx) (show _ = some (Value.int .u64 x4) from rfl)) rfl ?_ -- t33
  refine WD.take 20 rfl (by kernel_rfl) (by kernel_rfl) (by kernel_rfl) rfl rfl (Yl.sub rfl rfl rfl) rfl ?_ -- t34
  refine WD.take 21 rfl (by kernel_rfl) (by kernel_rfl) (by kernel_rfl) rfl rfl (Yl.move rfl) rfl ?_ -- t35
  refine WD.take 22 rfl (by kernel_rfl) (by kernel_rfl) (by kernel_rfl) rfl rfl (Yl.index (j := 6) un97 sz24 rfl rfl (Reads.s hx) rfl (by omega)) rfl ?_ -- t36
  refine WD.take 23 rfl (by kernel_rfl) (by kernel_rfl) (by kernel_rfl) rfl rfl (Yl.loadE on24 rfl (Reads.s hx) (show _ = some (Value.int .u64 x6) from rfl)) rfl ?_ -- t37
  refine WD.take 24 rfl (by kernel_rfl) (by kernel_rfl) (by kernel_rfl) rfl rfl (Yl.and rfl rfl) rfl ?_ -- t38
  refine WD.take 25 rfl (by kernel_rfl) (by kernel_rfl) (by kernel_rfl) rfl rfl (Yl.xor rfl rfl) rfl ?_ -- t39
  refine WD.take 27 rfl (by kernel_rfl) (by kernel_rfl) (by kernel_rfl) rfl rfl (Yl.move rfl) rfl ?_ -- t41
  refine WD.take 29 rfl (by kernel_rfl) (by kernel_rfl) (by kernel_rfl) rfl rfl (Yl.move rfl) rfl ?_ -- t43
  refine WD.take 31 rfl (by kernel_rfl) (by kernel_rfl) (by kernel_rfl) rfl rfl (Yl.move rfl) rfl ?_ -- t45
  refine WD.one 7 (by kernel_rfl) ?_
  refine WO.callC (xs := [_, .tmp 19, .tmp 20]) (cap := []) rfl .no rfl rfl en70 (by repeat (first | exact TakeL.nil | (apply TakeL.cons; · repeat (first | exact Take1.head | apply Take1.tail)))) (fun w hw => four_any 1 x4 h4 bt hbt w hw.left.here) rfl (fun _ => ⟨_, (by repeat (first | exact TakeL.nil | (apply TakeL.cons; · repeat (first | exact Take1.head | apply Take1.tail))))⟩) ?_ -- t21 hailer/hailerref01.four
  rintro ⟨⟩ -
  refine WD.take 8 rfl (by kernel_rfl) (by kernel_rfl) (by kernel_rfl) rfl rfl (Yl.add rfl rfl rfl) rfl ?_ -- t22
  refine WD.take 26 rfl (by kernel_rfl) (by kernel_rfl) (by kernel_rfl) rfl rfl (Yl.add rfl rfl rfl) rfl ?_ -- t40
  refine WD.take 28 rfl (by kernel_rfl) (by kernel_rfl) (by kernel_rfl) rfl rfl (Yl.add rfl rfl rfl) rfl ?_ -- t42
  refine WD.take 30 rfl (by kernel_rfl) (by kernel_rfl) (by kernel_rfl) rfl rfl (Yl.add rfl rfl rfl) rfl ?_ -- t44
  refine WD.one 32 (by kernel_rfl) ?_
  refine WO.callC (xs := [.tmp 44, .tmp 45]) (cap := []) rfl .no rfl rfl en69 (by repeat (first | exact TakeL.nil | (apply TakeL.cons; · repeat (first | exact Take1.head | apply Take1.tail)))) (fun w hw => cut_any _ (u64_wrap _).1 bt (by omega) w hw.left.here) rfl (fun _ => ⟨_, (by repeat (first | exact TakeL.nil | (apply TakeL.cons; · repeat (first | exact Take1.head | apply Take1.tail))))⟩) ?_ -- t46 hailer/hailerref01.cut
  rintro ⟨⟩ -
  refine WD.say (t := 46) (v' := .int .u64 (rpF bt x7 x4 x5 x6 kk ww)) rfl (by rfl) ?_
  refine WD.take 33 rfl (by kernel_rfl) (by kernel_rfl) (by kernel_rfl) rfl rfl (Yl.assign rfl) rfl ?_ -- t10
  refine WD.done (by kernel_rfl) ?_
  refine WC.seq ?_
  refine WC.drawAny (Hs := []) mixed (by kernel_rfl) ⟨_, (by repeat (first | exact TakeL.nil | (apply TakeL.cons; · repeat (first | exact Take1.head | apply Take1.tail))))⟩ ?_
  refine WD.take 0 rfl (by kernel_rfl) (by kernel_rfl) (by kernel_rfl) rfl rfl (Yl.move rfl) rfl ?_ -- t47
  refine WD.take 1 rfl (by kernel_rfl) (by kernel_rfl) (by kernel_rfl) rfl rfl (Yl.index (j := 0) un97 sz24 rfl rfl (Reads.s hx) rfl (by omega)) rfl ?_ -- t48
  refine WD.take 2 rfl (by kernel_rfl) (by kernel_rfl) (by kernel_rfl) rfl rfl (Yl.loadE on24 rfl (Reads.s hx) (show _ = some (Value.int .u64 x0) from rfl)) rfl ?_ -- t49
  refine WD.take 3 rfl (by kernel_rfl) (by kernel_rfl) (by kernel_rfl) rfl rfl (Yl.move rfl) rfl ?_ -- t50
  refine WD.take 5 rfl (by kernel_rfl) (by kernel_rfl) (by kernel_rfl) rfl rfl (Yl.move rfl) rfl ?_ -- t52
  refine WD.take 6 rfl (by kernel_rfl) (by kernel_rfl) (by kernel_rfl) rfl rfl (Yl.index (j := 0) un97 sz24 rfl rfl (Reads.s hx) rfl (by omega)) rfl ?_ -- t53
  refine WD.take 7 rfl (by kernel_rfl) (by kernel_rfl) (by kernel_rfl) rfl rfl (Yl.loadE on24 rfl (Reads.s hx) (show _ = some (Value.int .u64 x0) from rfl)) rfl ?_ -- t54
  refine WD.take 8 rfl (by kernel_rfl) (by kernel_rfl) (by kernel_rfl) rfl rfl (Yl.move rfl) rfl ?_ -- t55
  refine WD.take 9 rfl (by kernel_rfl) (by kernel_rfl) (by kernel_rfl) rfl rfl (Yl.index (j := 1) un97 sz24 rfl rfl (Reads.s hx) rfl (by omega)) rfl ?_ -- t56
  refine WD.take 10 rfl (by kernel_rfl) (by kernel_rfl) (by kernel_rfl) rfl rfl (Yl.loadE on24 rfl (Reads.s hx) (show _ = some (Value.int .u64 x1) from rfl)) rfl ?_ -- t57
  refine WD.take 11 rfl (by kernel_rfl) (by kernel_rfl) (by kernel_rfl) rfl rfl (Yl.and rfl rfl) rfl ?_ -- t58
  refine WD.take 12 rfl (by kernel_rfl) (by kernel_rfl) (by kernel_rfl) rfl rfl (Yl.move rfl) rfl ?_ -- t59
  refine WD.take 13 rfl (by kernel_rfl) (by kernel_rfl) (by kernel_rfl) rfl rfl (Yl.index (j := 0) un97 sz24 rfl rfl (Reads.s hx) rfl (by omega)) rfl ?_ -- t60
  refine WD.take 14 rfl (by kernel_rfl) (by kernel_rfl) (by kernel_rfl) rfl rfl (Yl.loadE on24 rfl (Reads.s hx) (show _ = some (Value.int .u64 x0) from rfl)) rfl ?_ -- t61
  refine WD.take 15 rfl (by kernel_rfl) (by kernel_rfl) (by kernel_rfl) rfl rfl (Yl.move rfl) rfl ?_ -- t62
  refine WD.take 16 rfl (by kernel_rfl) (by kernel_rfl) (by kernel_rfl) rfl rfl (Yl.index (j := 2) un97 sz24 rfl rfl (Reads.s hx) rfl (by omega)) rfl ?_ -- t63
  refine WD.take 17 rfl (by kernel_rfl) (by kernel_rfl) (by kernel_rfl) rfl rfl (Yl.loadE on24 rfl (Reads.s hx) (show _ = some (Value.int .u64 x2) from rfl)) rfl ?_ -- t64
  refine WD.take 18 rfl (by kernel_rfl) (by kernel_rfl) (by kernel_rfl) rfl rfl (Yl.and rfl rfl) rfl ?_ -- t65
  refine WD.take 19 rfl (by kernel_rfl) (by kernel_rfl) (by kernel_rfl) rfl rfl (Yl.xor rfl rfl) rfl ?_ -- t66
  refine WD.take 20 rfl (by kernel_rfl) (by kernel_rfl) (by kernel_rfl) rfl rfl (Yl.move rfl) rfl ?_ -- t67
  refine WD.take 21 rfl (by kernel_rfl) (by kernel_rfl) (by kernel_rfl) rfl rfl (Yl.index (j := 1) un97 sz24 rfl rfl (Reads.s hx) rfl (by omega)) rfl ?_ -- t68
  refine WD.take 22 rfl (by kernel_rfl) (by kernel_rfl) (by kernel_rfl) rfl rfl (Yl.loadE on24 rfl (Reads.s hx) (show _ = some (Value.int .u64 x1) from rfl)) rfl ?_ -- t69
  refine WD.take 23 rfl (by kernel_rfl) (by kernel_rfl) (by kernel_rfl) rfl rfl (Yl.move rfl) rfl ?_ -- t70
  refine WD.take 24 rfl (by kernel_rfl) (by kernel_rfl) (by kernel_rfl) rfl rfl (Yl.index (j := 2) un97 sz24 rfl rfl (Reads.s hx) rfl (by omega)) rfl ?_ -- t71
  refine WD.take 25 rfl (by kernel_rfl) (by kernel_rfl) (by kernel_rfl) rfl rfl (Yl.loadE on24 rfl (Reads.s hx) (show _ = some (Value.int .u64 x2) from rfl)) rfl ?_ -- t72
  refine WD.take 26 rfl (by kernel_rfl) (by kernel_rfl) (by kernel_rfl) rfl rfl (Yl.and rfl rfl) rfl ?_ -- t73
  refine WD.take 27 rfl (by kernel_rfl) (by kernel_rfl) (by kernel_rfl) rfl rfl (Yl.xor rfl rfl) rfl ?_ -- t74
  refine WD.take 29 rfl (by kernel_rfl) (by kernel_rfl) (by kernel_rfl) rfl rfl (Yl.move rfl) rfl ?_ -- t76
  refine WD.one 4 (by kernel_rfl) ?_
  refine WO.callC (xs := [_, .tmp 49, .tmp 50]) (cap := []) rfl .no rfl rfl en70 (by repeat (first | exact TakeL.nil | (apply TakeL.cons; · repeat (first | exact Take1.head | apply Take1.tail)))) (fun w hw => four_any 0 x0 h0 bt hbt w hw.left.here) rfl (fun _ => ⟨_, (by repeat (first | exact TakeL.nil | (apply TakeL.cons; · repeat (first | exact Take1.head | apply Take1.tail))))⟩) ?_ -- t51 hailer/hailerref01.four
  rintro ⟨⟩ -
  refine WD.take 28 rfl (by kernel_rfl) (by kernel_rfl) (by kernel_rfl) rfl rfl (Yl.add rfl rfl rfl) rfl ?_ -- t75
  refine WD.one 30 (by kernel_rfl) ?_
  refine WO.callC (xs := [.tmp 75, .tmp 76]) (cap := []) rfl .no rfl rfl en69 (by repeat (first | exact TakeL.nil | (apply TakeL.cons; · repeat (first | exact Take1.head | apply Take1.tail)))) (fun w hw => cut_any _ (u64_wrap _).1 bt (by omega) w hw.left.here) rfl (fun _ => ⟨_, (by repeat (first | exact TakeL.nil | (apply TakeL.cons; · repeat (first | exact Take1.head | apply Take1.tail))))⟩) ?_ -- t77 hailer/hailerref01.cut
  rintro ⟨⟩ -
  refine WD.say (t := 77) (v' := .int .u64 (rqF bt x0 x1 x2)) rfl (by rfl) ?_
  refine WD.take 31 rfl (by kernel_rfl) (by kernel_rfl) (by kernel_rfl) rfl rfl (Yl.assign rfl) rfl ?_ -- t11
  refine WD.done (by kernel_rfl) ?_
  refine WC.seq ?_
  refine WC.drawAny (Hs := []) mixed (by kernel_rfl) ⟨_, (by repeat (first | exact TakeL.nil | (apply TakeL.cons; · repeat (first | exact Take1.head | apply Take1.tail))))⟩ ?_
  obtain ⟨p, hp⟩ : ∃ p, rpF bt x7 x4 x5 x6 kk ww = p := ⟨_, rfl⟩
  obtain ⟨q, hq⟩ : ∃ q, rqF bt x0 x1 x2 = q := ⟨_, rfl⟩
  have hR : rrdF bt [x0, x1, x2, x3, x4, x5, x6, x7] kk ww = [cutF (IntKind.u64.wrap (p + q)) bt, x0, x1, x2, cutF (IntKind.u64.wrap (x3 + p)) bt, x4, x5, x6] := by rw [← hp, ← hq]; rfl
  rw [hp, hq, hR]
  refine WD.take 0 rfl (by kernel_rfl) (by kernel_rfl) (by kernel_rfl) rfl rfl (Yl.move rfl) rfl ?_ -- t78
  refine WD.take 1 rfl (by kernel_rfl) (by kernel_rfl) (by kernel_rfl) rfl rfl (Yl.move rfl) rfl ?_ -- t79
  refine WD.take 2 rfl (by kernel_rfl) (by kernel_rfl) (by kernel_rfl) rfl rfl (Yl.add rfl rfl rfl) rfl ?_ -- t80
  refine WD.take 3 rfl (by kernel_rfl) (by kernel_rfl) (by kernel_rfl) rfl rfl (Yl.move rfl) rfl ?_ -- t81
  refine WD.take 5 rfl (by kernel_rfl) (by kernel_rfl) (by kernel_rfl) rfl rfl (Yl.move rfl) rfl ?_ -- t83
  refine WD.take 6 rfl (by kernel_rfl) (by kernel_rfl) (by kernel_rfl) rfl rfl (Yl.index (j := 0) un97 sz24 rfl rfl (Reads.s hx) rfl (by omega)) rfl ?_ -- t84
  refine WD.take 7 rfl (by kernel_rfl) (by kernel_rfl) (by kernel_rfl) rfl rfl (Yl.loadE on24 rfl (Reads.s hx) (show _ = some (Value.int .u64 x0) from rfl)) rfl ?_ -- t85
  refine WD.take 8 rfl (by kernel_rfl) (by kernel_rfl) (by kernel_rfl) rfl rfl (Yl.move rfl) rfl ?_ -- t86
  refine WD.take 9 rfl (by kernel_rfl) (by kernel_rfl) (by kernel_rfl) rfl rfl (Yl.index (j := 1) un97 sz24 rfl rfl (Reads.s hx) rfl (by omega)) rfl ?_ -- t87
  refine WD.take 10 rfl (by kernel_rfl) (by kernel_rfl) (by kernel_rfl) rfl rfl (Yl.loadE on24 rfl (Reads.s hx) (show _ = some (Value.int .u64 x1) from rfl)) rfl ?_ -- t88
  refine WD.take 11 rfl (by kernel_rfl) (by kernel_rfl) (by kernel_rfl) rfl rfl (Yl.move rfl) rfl ?_ -- t89
  refine WD.take 12 rfl (by kernel_rfl) (by kernel_rfl) (by kernel_rfl) rfl rfl (Yl.index (j := 2) un97 sz24 rfl rfl (Reads.s hx) rfl (by omega)) rfl ?_ -- t90
  refine WD.take 13 rfl (by kernel_rfl) (by kernel_rfl) (by kernel_rfl) rfl rfl (Yl.loadE on24 rfl (Reads.s hx) (show _ = some (Value.int .u64 x2) from rfl)) rfl ?_ -- t91
  refine WD.take 14 rfl (by kernel_rfl) (by kernel_rfl) (by kernel_rfl) rfl rfl (Yl.move rfl) rfl ?_ -- t92
  refine WD.take 15 rfl (by kernel_rfl) (by kernel_rfl) (by kernel_rfl) rfl rfl (Yl.index (j := 3) un97 sz24 rfl rfl (Reads.s hx) rfl (by omega)) rfl ?_ -- t93
  refine WD.take 16 rfl (by kernel_rfl) (by kernel_rfl) (by kernel_rfl) rfl rfl (Yl.loadE on24 rfl (Reads.s hx) (show _ = some (Value.int .u64 x3) from rfl)) rfl ?_ -- t94
  refine WD.take 17 rfl (by kernel_rfl) (by kernel_rfl) (by kernel_rfl) rfl rfl (Yl.move rfl) rfl ?_ -- t95
  refine WD.take 18 rfl (by kernel_rfl) (by kernel_rfl) (by kernel_rfl) rfl rfl (Yl.add rfl rfl rfl) rfl ?_ -- t96
  refine WD.take 19 rfl (by kernel_rfl) (by kernel_rfl) (by kernel_rfl) rfl rfl (Yl.move rfl) rfl ?_ -- t97
  refine WD.take 21 rfl (by kernel_rfl) (by kernel_rfl) (by kernel_rfl) rfl rfl (Yl.move rfl) rfl ?_ -- t99
  refine WD.take 22 rfl (by kernel_rfl) (by kernel_rfl) (by kernel_rfl) rfl rfl (Yl.index (j := 4) un97 sz24 rfl rfl (Reads.s hx) rfl (by omega)) rfl ?_ -- t100
  refine WD.take 23 rfl (by kernel_rfl) (by kernel_rfl) (by kernel_rfl) rfl rfl (Yl.loadE on24 rfl (Reads.s hx) (show _ = some (Value.int .u64 x4) from rfl)) rfl ?_ -- t101
  refine WD.take 24 rfl (by kernel_rfl) (by kernel_rfl) (by kernel_rfl) rfl rfl (Yl.move rfl) rfl ?_ -- t102
  refine WD.take 25 rfl (by kernel_rfl) (by kernel_rfl) (by kernel_rfl) rfl rfl (Yl.index (j := 5) un97 sz24 rfl rfl (Reads.s hx) rfl (by omega)) rfl ?_ -- t103
  refine WD.take 26 rfl (by kernel_rfl) (by kernel_rfl) (by kernel_rfl) rfl rfl (Yl.loadE on24 rfl (Reads.s hx) (show _ = some (Value.int .u64 x5) from rfl)) rfl ?_ -- t104
  refine WD.take 27 rfl (by kernel_rfl) (by kernel_rfl) (by kernel_rfl) rfl rfl (Yl.move rfl) rfl ?_ -- t105
  refine WD.take 28 rfl (by kernel_rfl) (by kernel_rfl) (by kernel_rfl) rfl rfl (Yl.index (j := 6) un97 sz24 rfl rfl (Reads.s hx) rfl (by omega)) rfl ?_ -- t106
  refine WD.take 29 rfl (by kernel_rfl) (by kernel_rfl) (by kernel_rfl) rfl rfl (Yl.loadE on24 rfl (Reads.s hx) (show _ = some (Value.int .u64 x6) from rfl)) rfl ?_ -- t107
  refine WD.one 4 (by kernel_rfl) ?_
  refine WO.callC (xs := [.tmp 80, .tmp 81]) (cap := []) rfl .no rfl rfl en69 (by repeat (first | exact TakeL.nil | (apply TakeL.cons; · repeat (first | exact Take1.head | apply Take1.tail)))) (fun w hw => cut_any _ (u64_wrap _).1 bt (by omega) w hw.left.here) rfl (fun _ => ⟨_, (by repeat (first | exact TakeL.nil | (apply TakeL.cons; · repeat (first | exact Take1.head | apply Take1.tail))))⟩) ?_ -- t82 hailer/hailerref01.cut
  rintro ⟨⟩ -
  refine WD.one 20 (by kernel_rfl) ?_
  refine WO.callC (xs := [.tmp 96, .tmp 97]) (cap := []) rfl .no rfl rfl en69 (by repeat (first | exact TakeL.nil | (apply TakeL.cons; · repeat (first | exact Take1.head | apply Take1.tail)))) (fun w hw => cut_any _ (u64_wrap _).1 bt (by omega) w hw.left.here) rfl (fun _ => ⟨_, (by repeat (first | exact TakeL.nil | (apply TakeL.cons; · repeat (first | exact Take1.head | apply Take1.tail))))⟩) ?_ -- t98 hailer/hailerref01.cut
  rintro ⟨⟩ -
  refine WD.one 30 (by kernel_rfl) ?_
  refine WO.to rfl rfl .no (To.buildSlice (vs := ints .u64 [cutF (IntKind.u64.wrap (p + q)) bt, x0, x1, x2, cutF (IntKind.u64.wrap (x3 + p)) bt, x4, x5, x6]) un97 zs24 rfl rfl (ints_size _ _) (by decide) (by decide)) rfl (fun _ => ⟨_, (by repeat (first | exact TakeL.nil | (apply TakeL.cons; · repeat (first | exact Take1.head | apply Take1.tail))))⟩) ?_
  intro b108
  rw [flat_ints]
  refine WD.take 31 rfl (by kernel_rfl) (by kernel_rfl) (by kernel_rfl) rfl rfl (Yl.assign rfl) rfl ?_ -- t8
  refine WD.done (by kernel_rfl) ?_
  refine WC.ret ?_
  repeat (first | (with_reducible refine peelT ?_) | (with_reducible refine peelB ?_) | (with_reducible refine peelTX ?_) | (with_reducible refine peelBX ?_) | (with_reducible refine peelBN ?_) | (with_reducible refine peelBO rfl ?_))
  exact ret1 (.inr rfl) Try.results71 rfl fun w' h => ⟨b108, trivial, rfl, (h.blkOwn (b := b108) (size := 1) (n := 8) (by repeat (first | exact Take1.head | apply Take1.tail)) (by unfold maxLen; omega) rfl).sub (by repeat (first | exact TakeL.nil | (apply TakeL.cons; · repeat (first | exact Take1.head | apply Take1.tail))))⟩
end Go.Proofs.Ytfdnnlcfolgegaa
