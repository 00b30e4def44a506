/- A bounded list of numbers: made, put to, its length: the walks. -/
import Derived.Test.YtpjgmiemamcdhaaLogP
namespace Go.Proofs.Ytpjgmiemamcdhaa
open Go Go.RowKit

theorem newI_any (most : Int) (w : World) (hw : OK w (fpL []) [] w) : Fn Try.prog 35 [.int .i64 most] [] w (fun _ : Nat => True) (fun b => .pointer (some ⟨b, 0, none⟩)) (fun b => [blkR b 109 [.slice none 0 0, .int .i64 (if (0 : Int) > most then 0 else most)], ownR (.slice none 0 0) 3 1 0 (vcs (Value.int .i64) [])]) := by
  refine enterF Try.func35 rfl Try.ntmps35 rfl hw ?_
  refine WC.seq ?_
  refine WC.region ?_
  refine WL.y (Yl.assign rfl) rfl ?_ -- t2
  refine WL.nil ?_
  refine WC.seq ?_
  refine WC.region ?_
  refine WL.y (Yl.move rfl) rfl ?_ -- t3
  refine WL.y (Yl.max2 rfl rfl) rfl ?_ -- t4
  refine WL.y (Yl.build rfl (cs := [.slice none 0 0, .int .i64 (if (0 : Int) > most then 0 else most)]) (fun _ => by kernel_rfl)) rfl ?_ -- t5
  refine WL.to (To.box (cs := [.slice none 0 0, .int .i64 (if (0 : Int) > most then 0 else most)]) rfl rfl) rfl ?_ -- t6
  intro b6
  refine WL.y (Yl.assign rfl) rfl ?_ -- t2
  refine WL.nil ?_
  refine WC.ret ?_
  repeat (first | (with_reducible refine peelT ?_) | (with_reducible refine peelB ?_) | (with_reducible refine peelTX ?_) | (with_reducible refine peelBX ?_) | (with_reducible refine peelBN ?_) | (with_reducible refine peelBO rfl ?_))
  exact ret1 (.inr rfl) Try.results35 rfl fun w' h => ⟨b6, trivial, rfl, (h.addNil 3 1).sub (by repeat (first | exact TakeL.nil | (apply TakeL.cons; · repeat (first | exact Take1.head | apply Take1.tail))))⟩

theorem clipI_any (ao : Option Addr) (n cap : Nat) (hn : n ≤ cap) (w : World) (hw : OK w (fpL []) [] w) : Fn Try.prog 57 [.slice ao n cap] [] w (fun _ : Unit => True) (fun _ => subS (.slice ao n cap) 0 n n 1) (fun _ => []) := by
  refine enterF Try.func57 rfl Try.ntmps57 rfl hw ?_
  refine WC.seq ?_
  refine WC.region ?_
  refine WL.y (Yl.assign rfl) rfl ?_ -- t2
  refine WL.nil ?_
  refine WC.seq ?_
  refine WC.region ?_
  refine WL.y (Yl.move rfl) rfl ?_ -- t3
  refine WL.y (Yl.move rfl) rfl ?_ -- t4
  refine WL.y (Yl.len un106 rfl) rfl ?_ -- t5
  refine WL.y (Yl.move rfl) rfl ?_ -- t6
  refine WL.y (Yl.len un106 rfl) rfl ?_ -- t7
  refine WL.y (Yl.slice3 un106 sz3 rfl rfl rfl (by omega) (by omega)) rfl ?_ -- t8
  refine WL.y (Yl.assign rfl) rfl ?_ -- t2
  refine WL.nil ?_
  refine WC.ret ?_
  repeat (first | (with_reducible refine peelT ?_) | (with_reducible refine peelB ?_) | (with_reducible refine peelTX ?_) | (with_reducible refine peelBX ?_) | (with_reducible refine peelBN ?_) | (with_reducible refine peelBO rfl ?_))
  exact ret1 (.inr rfl) Try.results57 rfl fun w' h => ⟨(), trivial, rfl, h.sub (by repeat (first | exact TakeL.nil | (apply TakeL.cons; · repeat (first | exact Take1.head | apply Take1.tail))))⟩

theorem putI_any (b : Nat) (most : Int) (ao : Option Addr) (cap : Nat) (xs : List Int) (x : Int) (hl : xs.length ≤ 1000000) (w : World)
    (hw : OK w (fpL [blkR b 109 [.slice ao xs.length cap, .int .i64 most], ownR (.slice ao xs.length cap) 3 1 xs.length (vcs (Value.int .i64) xs)]) [blkR b 109 [.slice ao xs.length cap, .int .i64 most], ownR (.slice ao xs.length cap) 3 1 xs.length (vcs (Value.int .i64) xs)] w) (hm : 0 ≤ most) :
    Fn Try.prog 32 [.pointer (some ⟨b, 0, none⟩), .int .i64 x] [blkR b 109 [.slice ao xs.length cap, .int .i64 most], ownR (.slice ao xs.length cap) 3 1 xs.length (vcs (Value.int .i64) xs)] w (fun _ : Option Addr × Nat => True) (fun _ => .tuple #[.int .i64 (outF 0 most xs x), .bool (fullF most xs)])
      (fun y => [blkR b 109 [.slice y.1 (putF most xs x).length y.2, .int .i64 most], ownR (.slice y.1 (putF most xs x).length y.2) 3 1 (putF most xs x).length (vcs (Value.int .i64) (putF most xs x))]) := by
  obtain ⟨_, _, he, hcl, hml⟩ := (hw.get (.tail .head) : Sown _ _ _ _ _ _).rd.form
  cases he
  obtain ⟨ys, hys⟩ : ∃ ys, xs ++ [x] = ys := ⟨_, rfl⟩
  have hyl : ys.length = xs.length + 1 := by rw [← hys]; simp
  have hne : ys ≠ [] := by intro h; rw [h] at hyl; simp at hyl
  have hcat : vcs (Value.int .i64) xs ++ [Value.int .i64 x] = vcs (Value.int .i64) ys := by rw [← hys, vcs_app]; rfl
  refine enterF Try.func32 rfl Try.ntmps32 rfl hw ?_
  refine WC.seq ?_
  refine WC.region ?_
  refine WL.y (Yl.assign rfl) rfl ?_ -- t4
  refine WL.y (Yl.assign rfl) rfl ?_ -- t5
  refine WL.nil ?_
  refine WC.seq ?_
  refine WC.seq ?_
  refine WC.region ?_
  refine WL.y (Yl.move rfl) rfl ?_ -- t6
  refine WL.y (Yl.nilEq un75 rfl rfl) rfl ?_ -- t7
  refine WL.know (t := 7) (b' := false) rfl (by first | rfl | (simp; done) | (simp; omega)) ?_
  refine WL.nil ?_
  refine WC.condF rfl (by first | rfl | (simp; done) | (simp; omega)) ?_
  refine WC.skip ?_
  refine WC.seq ?_
  refine WC.region ?_
  refine WL.y (Yl.move rfl) rfl ?_ -- t9
  refine WL.y (Yl.move rfl) rfl ?_ -- t10
  refine WL.y (Yl.nilCheck rfl) rfl ?_ -- t11
  refine WL.y (Yl.field fo109_0 rfl) rfl ?_ -- t12
  refine WL.y (Yl.load on106 rfl (by repeat (first | exact Take1.head | apply Take1.tail)) (by rfl)) rfl ?_ -- t13
  refine WL.callC (xs := [.tmp 13]) (cap := []) rfl rfl en57 (by repeat (first | exact TakeL.nil | (apply TakeL.cons; · repeat (first | exact Take1.head | apply Take1.tail)))) (fun w hw => clipI_any ao xs.length cap hcl w hw.left.here) rfl ?_ -- t14 slices.Clip[[]int,int]
  rintro ⟨⟩ -
  refine WL.view (fun w h => h.subG (by repeat (first | exact Take1.head | apply Take1.tail)) (l := 0) (hh := xs.length) (m := xs.length) (Nat.zero_le _) (Nat.le_refl _) hcl (Nat.le_refl _) (cs' := vcs (Value.int .i64) xs) (by rw [Nat.zero_mul, List.drop_zero, Nat.sub_zero, Nat.mul_one, List.take_of_length_le (by rw [vtI.size (fun _ _ => trivial)]; omega)])) ?_
  refine WL.y (Yl.move rfl) rfl ?_ -- t15
  refine WL.to (To.buildSlice (vs := [.int .i64 x]) un106 zs3 rfl rfl (by simp [Value.cells]) (by decide) (by decide)) rfl ?_ -- t16
  intro b16
  refine WL.to (To.append sl106 rfl rfl (by repeat (first | exact Take1.head | apply Take1.tail)) (Reads.of (RdOf.blk (size := 1) (cs := [.int .i64 x]) (cs' := [.int .i64 x]) (Nat.le_refl _) (by unfold maxLen; omega) (by simp) rfl) (by repeat (first | exact Take1.head | apply Take1.tail))) (by intro v hv; rw [List.mem_singleton.1 hv]; rfl) (show xs.length - 0 + 1 = ys.length by omega) hcat (by unfold maxLen; omega) (by omega)) rfl ?_ -- t17
  rintro ⟨⟨ao17, c17⟩, hc17⟩
  dsimp only at hc17 ⊢
  refine WL.y (Yl.nilCheck rfl) rfl ?_ -- t18
  refine WL.y (Yl.field fo109_0 rfl) rfl ?_ -- t19
  refine WL.sto (Sto.one sz106 rfl rfl (by repeat (first | exact Take1.head | apply Take1.tail)) rfl (by rfl) (by rfl)) (fun _ h => nomatch h) ?_ -- st 1
  refine WL.nil ?_
  refine WC.seq ?_
  refine WC.seq ?_
  refine WC.drawRead mixed (by kernel_rfl) ?_
  refine WH.y (Yl.move rfl) rfl ?_ -- t20
  refine WH.y (Yl.nilCheck rfl) rfl ?_ -- t21
  refine WH.y (Yl.field fo109_0 rfl) rfl ?_ -- t22
  refine WH.y (Yl.load on106 rfl (by repeat (first | exact Take1.head | apply Take1.tail)) (by rfl)) rfl ?_ -- t23
  refine WH.y (Yl.len un106 rfl) rfl ?_ -- t24
  refine WH.y (Yl.move rfl) rfl ?_ -- t25
  refine WH.y (Yl.nilCheck rfl) rfl ?_ -- t26
  refine WH.y (Yl.field fo109_1 rfl) rfl ?_ -- t27
  refine WH.y (Yl.load on3 rfl (by repeat (first | exact Take1.head | apply Take1.tail)) (by rfl)) rfl ?_ -- t28
  refine WH.y (Yl.leq rfl rfl) rfl ?_ -- t29
  refine WH.nil ?_
  refine WC.condD rfl (fun g29 => ?_) (fun g29 => ?_)
  · refine WC.seq ?_
    refine WC.region ?_
    refine WL.y (Yl.move rfl) rfl ?_ -- t30
    refine WL.y (Yl.assign rfl) rfl ?_ -- t4
    refine WL.y (Yl.assign rfl) rfl ?_ -- t5
    refine WL.nil ?_
    refine WC.ret ?_
    repeat (first | (with_reducible refine peelT ?_) | (with_reducible refine peelB ?_) | (with_reducible refine peelTX ?_) | (with_reducible refine peelBX ?_) | (with_reducible refine peelBN ?_) | (with_reducible refine peelBO rfl ?_))
    have e1 : putF most xs x = ys := by unfold putF; rw [if_pos (by omega), hys]
    have e2 : outF 0 most xs x = 0 := by unfold outF; rw [if_pos (by omega)]
    have e3 : fullF most xs = false := by unfold fullF; rw [decide_eq_true (by omega)]; rfl
    rw [e1, e2, e3]
    exact ret2 (.inr rfl) Try.results32 rfl rfl fun w' h => ⟨(ao17, c17), trivial, rfl, h.sub (by repeat (first | exact TakeL.nil | (apply TakeL.cons; · repeat (first | exact Take1.head | apply Take1.tail))))⟩
  · refine WC.skip ?_
    refine WC.seq ?_
    refine WC.region ?_
    refine WL.y (Yl.move rfl) rfl ?_ -- t31
    refine WL.y (Yl.nilCheck rfl) rfl ?_ -- t32
    refine WL.y (Yl.field fo109_0 rfl) rfl ?_ -- t33
    refine WL.y (Yl.load on106 rfl (by repeat (first | exact Take1.head | apply Take1.tail)) (by rfl)) rfl ?_ -- t34
    refine WL.y (Yl.index (j := 0) un106 sz3 rfl rfl (Reads.of RdOf.own (by repeat (first | exact Take1.head | apply Take1.tail))) rfl (by omega)) rfl ?_ -- t35
    refine WL.y (Yl.loadV (j := 0) (u := ys.head hne) vtI (fun _ _ => trivial) rfl (Reads.of RdOf.own (by repeat (first | exact Take1.head | apply Take1.tail))) rfl (head_get hne)) rfl ?_
    refine WL.y (Yl.assign rfl) rfl ?_ -- t4
    refine WL.nil ?_
    refine WC.seq ?_
    refine WC.region ?_
    refine WL.y (Yl.move rfl) rfl ?_ -- t37
    refine WL.y (Yl.move rfl) rfl ?_ -- t38
    refine WL.y (Yl.nilCheck rfl) rfl ?_ -- t39
    refine WL.y (Yl.field fo109_0 rfl) rfl ?_ -- t40
    refine WL.y (Yl.load on106 rfl (by repeat (first | exact Take1.head | apply Take1.tail)) (by rfl)) rfl ?_ -- t41
    have hyc := hc17
    refine WL.view (fun w h => h.subG (by repeat (first | exact Take1.head | apply Take1.tail)) (ao := ao17) (l := 1) (hh := ys.length) (m := c17) (by omega) hyc (Nat.le_refl _) (Nat.le_refl _) (cs' := vcs (Value.int .i64) (ys.drop 1)) (by rw [vtI.drop 1 (fun _ _ => trivial), List.take_of_length_le (by rw [vtI.size (fun _ _ => trivial), List.length_drop]; omega)])) ?_
    refine WL.y (Yl.slice (l := 1) un106 sz3 rfl ⟨_, rfl⟩ rfl (by omega) (by omega)) rfl ?_ -- t42
    refine WL.y (Yl.nilCheck rfl) rfl ?_ -- t43
    refine WL.y (Yl.field fo109_0 rfl) rfl ?_ -- t44
    refine WL.sto (Sto.one sz106 rfl rfl (by repeat (first | exact Take1.head | apply Take1.tail)) rfl (by rfl) (by rfl)) (fun _ h => nomatch h) ?_ -- st 2
    refine WL.nil ?_
    refine WC.seq ?_
    refine WC.region ?_
    refine WL.y (Yl.move rfl) rfl ?_ -- t45
    refine WL.y (Yl.assign rfl) rfl ?_ -- t4
    refine WL.y (Yl.assign rfl) rfl ?_ -- t5
    refine WL.nil ?_
    refine WC.ret ?_
    repeat (first | (with_reducible refine peelT ?_) | (with_reducible refine peelB ?_) | (with_reducible refine peelTX ?_) | (with_reducible refine peelBX ?_) | (with_reducible refine peelBN ?_) | (with_reducible refine peelBO rfl ?_))
    have e1 : putF most xs x = ys.drop 1 := by unfold putF; rw [if_neg (by omega), hys]
    have e2 : outF 0 most xs x = ys.head hne := by unfold outF; rw [if_neg (by omega)]; simp only [hys]
    have e3 : fullF most xs = true := by unfold fullF; rw [decide_eq_false (by omega)]; rfl
    have e4 : (ys.drop 1).length = ys.length - 1 := List.length_drop
    rw [e1, e2, e3, e4]
    exact ret2 (.inr rfl) Try.results32 rfl rfl fun w' h => ⟨((if c17 = 1 then ao17 else ao17.map (·.add (1 * 1))), c17 - 1), trivial, rfl, h.sub (by repeat (first | exact TakeL.nil | (apply TakeL.cons; · repeat (first | exact Take1.head | apply Take1.tail))))⟩

theorem lenI_any (b : Nat) (most : Int) (ao : Option Addr) (n cap : Nat) (w : World) (hw : OK w (fpL [blkR b 109 [.slice ao n cap, .int .i64 most]]) [blkR b 109 [.slice ao n cap, .int .i64 most]] w) :
    Fn Try.prog 33 [.pointer (some ⟨b, 0, none⟩)] [blkR b 109 [.slice ao n cap, .int .i64 most]] w (fun _ : Unit => True) (fun _ => .int .i64 (n : Int)) (fun _ => [blkR b 109 [.slice ao n cap, .int .i64 most]]) := by
  refine enterF Try.func33 rfl Try.ntmps33 rfl hw ?_
  refine WC.seq ?_
  refine WC.region ?_
  refine WL.y (Yl.assign rfl) rfl ?_ -- t2
  refine WL.nil ?_
  refine WC.seq ?_
  refine WC.seq ?_
  refine WC.region ?_
  refine WL.y (Yl.move rfl) rfl ?_ -- t3
  refine WL.y (Yl.nilEq un75 rfl rfl) rfl ?_ -- t4
  refine WL.know (t := 4) (b' := false) rfl (by first | rfl | (simp; done) | (simp; omega)) ?_
  refine WL.nil ?_
  refine WC.condF rfl (by first | rfl | (simp; done) | (simp; omega)) ?_
  refine WC.skip ?_
  refine WC.seq ?_
  refine WC.region ?_
  refine WL.y (Yl.move rfl) rfl ?_ -- t5
  refine WL.y (Yl.nilCheck rfl) rfl ?_ -- t6
  refine WL.y (Yl.field fo109_0 rfl) rfl ?_ -- t7
  refine WL.y (Yl.load on106 rfl (by repeat (first | exact Take1.head | apply Take1.tail)) (by rfl)) rfl ?_ -- t8
  refine WL.y (Yl.len un106 rfl) rfl ?_ -- t9
  refine WL.y (Yl.assign rfl) rfl ?_ -- t2
  refine WL.nil ?_
  refine WC.ret ?_
  repeat (first | (with_reducible refine peelT ?_) | (with_reducible refine peelB ?_) | (with_reducible refine peelTX ?_) | (with_reducible refine peelBX ?_) | (with_reducible refine peelBN ?_) | (with_reducible refine peelBO rfl ?_))
  exact ret1 (.inr rfl) Try.results33 rfl fun w' h => ⟨(), trivial, rfl, h.sub (by repeat (first | exact TakeL.nil | (apply TakeL.cons; · repeat (first | exact Take1.head | apply Take1.tail))))⟩
end Go.Proofs.Ytpjgmiemamcdhaa
