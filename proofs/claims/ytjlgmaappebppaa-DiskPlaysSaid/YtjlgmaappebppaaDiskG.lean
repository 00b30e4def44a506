/- The document's records and writes: the walks. -/
import Derived.Test.YtjlgmaappebppaaDiskC
import Derived.Test.YtjlgmaappebppaaShaQ32
import Derived.Test.YtjlgmaappebppaaDiskE
namespace Go.Proofs.Ytjlgmaappebppaa
open Go Go.RowKit

theorem dnumber_any (n : Int) (many : Nat) (hn : U64 n) (hm : many ≤ 8) (w : World) (hw : OK w (fpL []) [] w) :
    Fn Try.prog 30 [.int .u64 n, .int .i64 (many : Int)] [] w (fun _ : Nat => True) (fun b => .slice (some ⟨b, 0, none⟩) many many) (fun b => [ownR (.slice (some ⟨b, 0, none⟩) many many) 5 1 many (ints .u8 (be n many))]) := by
  refine enterF Try.func30 rfl Try.ntmps30 rfl hw ?_
  refine WC.seq ?_
  refine WC.region ?_
  refine WL.y (Yl.assign rfl) rfl ?_ -- t4
  refine WL.nil ?_
  refine WC.seq ?_
  refine WC.region ?_
  refine WL.y (Yl.move rfl) rfl ?_ -- t7
  refine WL.to (To.makeSlice un22 zb22_5 rfl rfl rfl (by omega) (by unfold maxLen; omega)) rfl ?_ -- t8
  intro b8
  refine WL.view (fun w h => h.blkOwn (b := b8) (size := 1) (n := many) (by repeat (first | exact Take1.head | apply Take1.tail)) (by unfold maxLen; omega) (by simp)) ?_
  refine WL.y (Yl.assign rfl) rfl ?_ -- t5
  refine WL.nil ?_
  refine WC.seq ?_
  refine WC.seq ?_
  refine WC.region ?_
  refine WL.y (Yl.move rfl) rfl ?_ -- t9
  refine WL.y (Yl.sub rfl rfl (IntWalk.i64_in _ (by omega))) rfl ?_ -- t10
  refine WL.y (Yl.assign rfl) rfl ?_ -- t6
  refine WL.nil ?_
  refine WC.block ?_
  refine WC.loop (α := Nat) (fun j => [(0, .int .u64 (n / 2 ^ (8 * j))), (5, .slice (some ⟨b8, 0, none⟩) many many), (6, .int .i64 ((many : Int) - 1 - (j : Int)))]) (fun j => [ownR (.slice (some ⟨b8, 0, none⟩) many many) 5 1 many (ints .u8 (numK n many j))]) (fun j => j ≤ many) (fun j => many - j) 0 (Nat.zero_le _) ⟨(by refine Sub.cons (by simp; rfl) (Sub.cons rfl (Sub.cons ?_ Sub.nil)); show some (Value.int .i64 _) = some (Value.int .i64 _); congr 2; omega), _, (by rw [numK_zero]; exact (by repeat (first | exact TakeL.nil | (apply TakeL.cons; · repeat (first | exact Take1.head | apply Take1.tail)))))⟩ ?_
  intro j hj
  have hp : (0 : Int) < 2 ^ (8 * j) := Int.pow_pos (by decide)
  have hq : 0 ≤ n / 2 ^ (8 * j) := Int.ediv_nonneg hn.1 (by omega)
  have hq2 : n / 2 ^ (8 * j) < 18446744073709551616 := by have := Int.ediv_le_self (2 ^ (8 * j)) hn.1; have := hn.2; omega
  refine WC.seq ?_
  refine WC.seq ?_
  refine WC.region ?_
  refine WL.y (Yl.move rfl) rfl ?_ -- t11
  refine WL.y (Yl.geq rfl rfl) rfl ?_ -- t12
  refine WL.nil ?_
  refine WC.condD rfl (fun g12 => ?_) (fun g12 => ?_)
  · refine WC.skip ?_
    refine WC.seq ?_
    refine WC.block ?_
    refine WC.seq ?_
    refine WC.region ?_
    refine WL.y (Yl.move rfl) rfl ?_ -- t15
    refine WL.y (Yl.move rfl) rfl ?_ -- t16
    refine WL.y (Yl.move rfl) rfl ?_ -- t17
    refine WL.y (Yl.rem rfl rfl (by omega) (Int.tmod_eq_emod_of_nonneg hq)) rfl ?_
    refine WL.y (Yl.conv un31 un5 rfl (IntWalk.u8_in _ (by omega))) rfl ?_ -- t19
    refine WL.y (Yl.index un22 sz5 rfl rfl (Reads.own (by repeat (first | exact Take1.head | apply Take1.tail))) (show ((many : Int) - 1 - (j : Int)) = ((many - 1 - j : Nat) : Int) by omega) (by omega)) rfl ?_ -- t20
    refine WL.sto (Sto.elem sz5 rfl rfl (by repeat (first | exact Take1.head | apply Take1.tail)) rfl (by omega) (cs' := ints .u8 (numK n many (j + 1))) (numK_step n (by omega))) (fun _ h => nomatch h) ?_
    refine WL.nil ?_
    refine WC.region ?_
    refine WL.y (Yl.move rfl) rfl ?_ -- t21
    refine WL.y (Yl.quo rfl rfl (by omega) (r := n / 2 ^ (8 * (j + 1))) (by rw [Int.tdiv_eq_ediv_of_nonneg hq, u64_in _ (by omega)]; exact div256 n j)) rfl ?_
    refine WL.y (Yl.assign rfl) rfl ?_ -- t0
    refine WL.nil ?_
    refine WC.region ?_
    refine WL.y (Yl.move rfl) rfl ?_ -- t13
    refine WL.y (Yl.sub rfl rfl (IntWalk.i64_in _ (by omega))) rfl ?_ -- t14
    refine WL.y (Yl.assign rfl) rfl ?_ -- t6
    refine WL.nil ?_
    exact ⟨rfl, j + 1, by omega, by omega, (by refine Sub.cons rfl (Sub.cons rfl (Sub.cons ?_ Sub.nil)); show some (Value.int .i64 _) = some (Value.int .i64 _); congr 2; omega), _, (by repeat (first | exact TakeL.nil | (apply TakeL.cons; · repeat (first | exact Take1.head | apply Take1.tail))))⟩
  · refine WC.exit ?_
    refine WC.seq ?_
    refine WC.region ?_
    refine WL.y (Yl.move rfl) rfl ?_ -- t23
    refine WL.y (Yl.assign rfl) rfl ?_ -- t4
    refine WL.nil ?_
    refine WC.ret ?_
    repeat (first | (with_reducible refine peelT ?_) | (with_reducible refine peelB ?_) | (with_reducible refine peelTX ?_) | (with_reducible refine peelBX ?_) | (with_reducible refine peelBN ?_) | (with_reducible refine peelBO rfl ?_))
    have hj2 : j = many := by omega
    subst hj2
    exact ret1 (.inr rfl) Try.results30 rfl fun w' h => ⟨b8, trivial, rfl, by rw [numK_all] at h; exact h.sub (by repeat (first | exact TakeL.nil | (apply TakeL.cons; · repeat (first | exact Take1.head | apply Take1.tail))))⟩

theorem dof_any (xs : List Int) (hB : Bytes xs) (hl : xs.length ≤ 8) (v : Value) (w : World) (hx : RdS w (fpL []) v 1 xs.length (ints .u8 xs)) (hw : OK w (fpL []) [] w) :
    Fn Try.prog 32 [v] [] w (fun _ : Unit => True) (fun _ => .int .u64 (val xs)) (fun _ => []) := by
  obtain ⟨al, cl, rfl, hcl, hml⟩ := hx.rd.form
  refine enterF Try.func32 rfl Try.ntmps32 rfl hw ?_
  refine WC.seq ?_
  refine WC.region ?_
  refine WL.y (Yl.assign rfl) rfl ?_ -- t2
  refine WL.nil ?_
  refine WC.seq ?_
  refine WC.region ?_
  refine WL.y (Yl.assign rfl) rfl ?_ -- t3
  refine WL.nil ?_
  refine WC.seq ?_
  refine WC.seq ?_
  refine WC.region ?_
  refine WL.y (Yl.assign rfl) rfl ?_ -- t4
  refine WL.nil ?_
  refine WC.block ?_
  refine WC.loop (α := Nat) (fun k => [(0, .slice al xs.length cl), (3, .int .u64 (val (xs.take k))), (4, .int .i64 (k : Int))]) (fun _ => []) (fun k => k ≤ xs.length) (fun k => xs.length - k) 0 (Nat.zero_le _) ⟨(by repeat (first | exact Sub.nil | refine Sub.cons rfl ?_)), _, (by repeat (first | exact TakeL.nil | (apply TakeL.cons; · repeat (first | exact Take1.head | apply Take1.tail))))⟩ ?_
  intro k hk
  refine WC.seq ?_
  refine WC.seq ?_
  refine WC.region ?_
  refine WL.y (Yl.move rfl) rfl ?_ -- t5
  refine WL.y (Yl.move rfl) rfl ?_ -- t6
  refine WL.y (Yl.len un22 rfl) rfl ?_ -- t7
  refine WL.y (Yl.lss rfl rfl) rfl ?_ -- t8
  refine WL.nil ?_
  refine WC.condD rfl (fun g8 => ?_) (fun g8 => ?_)
  · refine WC.skip ?_
    refine WC.seq ?_
    refine WC.block ?_
    refine WC.region ?_
    refine WL.y (Yl.move rfl) rfl ?_ -- t11
    have hkl : k < xs.length := by omega
    have hs := take_getD hkl
    have hv0 := val8_rng (hB.take k) (by rw [List.length_take]; omega)
    have hv1 := val8_rng (hB.take (k + 1)) (by rw [List.length_take]; omega)
    rw [hs, val_snoc] at hv1
    have hx0 := hB.getD hkl
    refine WL.y (Yl.mul rfl rfl (u64_in _ (by omega))) rfl ?_
    refine WL.y (Yl.move rfl) rfl ?_ -- t13
    refine WL.y (Yl.move rfl) rfl ?_ -- t14
    refine WL.y (Yl.index un22 sz5 rfl rfl (Reads.s hx) rfl (by omega)) rfl ?_ -- t15
    refine WL.y (Yl.loadE (u := .int .u8 (xs.getD k 0)) on5 rfl (Reads.s hx) (by simp [ints, hkl])) rfl ?_
    refine WL.y (Yl.conv un5 un31 rfl (u64_in _ (by omega))) rfl ?_ -- t17
    refine WL.y (Yl.add rfl rfl (u64_in _ (by omega))) rfl ?_
    refine WL.say (t := 18) (v' := .int .u64 (val (xs.take (k + 1)))) rfl (by (rw [hs, val_snoc, Int.mul_comm])) ?_
    refine WL.y (Yl.assign rfl) rfl ?_ -- t3
    refine WL.nil ?_
    refine WC.region ?_
    refine WL.y (Yl.move rfl) rfl ?_ -- t9
    refine WL.y (Yl.add rfl rfl (IntWalk.i64_in _ (by omega))) rfl ?_ -- t10
    refine WL.y (Yl.assign rfl) rfl ?_ -- t4
    refine WL.nil ?_
    exact ⟨rfl, k + 1, by omega, by omega, (by repeat (first | exact Sub.nil | refine Sub.cons rfl ?_)), _, (by repeat (first | exact TakeL.nil | (apply TakeL.cons; · repeat (first | exact Take1.head | apply Take1.tail))))⟩
  · refine WC.exit ?_
    refine WC.seq ?_
    refine WC.region ?_
    refine WL.y (Yl.move rfl) rfl ?_ -- t19
    refine WL.y (Yl.assign rfl) rfl ?_ -- t2
    refine WL.nil ?_
    refine WC.ret ?_
    repeat (first | (with_reducible refine peelT ?_) | (with_reducible refine peelB ?_) | (with_reducible refine peelTX ?_) | (with_reducible refine peelBX ?_) | (with_reducible refine peelBN ?_) | (with_reducible refine peelBO rfl ?_))
    have hkl : k = xs.length := by omega
    subst hkl
    rw [List.take_length]
    exact ret1 (.inr rfl) Try.results32 rfl fun w' h => ⟨(), trivial, rfl, h.sub (by repeat (first | exact TakeL.nil | (apply TakeL.cons; · repeat (first | exact Take1.head | apply Take1.tail))))⟩

set_option maxRecDepth 100000 in
theorem rrecord_any (n : Int) (b : List Int) (v : Value) (hB : Bytes b) (hn : 0 ≤ n ∧ n < 18446744073709551616) (hl : b.length ≤ 90000) (w : World) (hx : RdS w (fpL []) v 1 b.length (ints .u8 b)) (hw : OK w (fpL []) [] w) :
    Fn Try.prog 20 [.int .u64 n, v] [] w (fun y : Option Addr × Nat => (recF n b).length ≤ y.2) (fun y => .slice y.1 (recF n b).length y.2) (fun y => [ownR (.slice y.1 (recF n b).length y.2) 5 1 (recF n b).length (ints .u8 (recF n b))]) := by
  obtain ⟨al, cl, rfl, hcl, hml⟩ := hx.rd.form
  have l4 := headF_len n b
  have l5 := recF_len n b
  have eH : [72, 68] ++ be n 8 ++ be (b.length : Int) 4 ++ b = headF n b := rfl
  have eS := sum256_eq (headF_by (n := n) hB) (by rw [l4]; omega)
  have s32 := sum256_len (headF n b)
  refine enterF Try.func20 rfl Try.ntmps20 rfl hw ?_
  refine WC.seq ?_
  refine WC.region ?_
  refine WL.y (Yl.assign rfl) rfl ?_ -- t4
  refine WL.nil ?_
  refine WC.seq ?_
  refine WC.region ?_
  refine WL.to (To.buildSlice (vs := [.int .u8 72, .int .u8 68]) un22 zs5 rfl rfl (by simp [Value.cells]) (by decide) (by decide)) rfl ?_ -- t6
  intro b6
  refine WL.view (fun w h => h.blkOwn (b := b6) (size := 1) (n := 2) (by repeat (first | exact Take1.head | apply Take1.tail)) (by unfold maxLen; omega) rfl) ?_
  refine WL.y (Yl.move rfl) rfl ?_ -- t7
  refine WL.callC (xs := [.tmp 7, _]) (cap := []) rfl rfl en30 (by repeat (first | exact TakeL.nil | (apply TakeL.cons; · repeat (first | exact Take1.head | apply Take1.tail)))) (fun w hw => dnumber_any n 8 hn (by omega) w hw.left.here) rfl ?_ -- t8 hailer/hailerref34.number
  intro b8 _
  refine WL.to (To.append (xs := ints .u8 [72, 68]) (news := ints .u8 (be n 8)) sl22 rfl rfl (by repeat (first | exact Take1.head | apply Take1.tail)) (Reads.of RdOf.own (by repeat (first | exact Take1.head | apply Take1.tail))) (ints_one _ _) (N := 10) rfl (zs := ints .u8 ([72, 68] ++ be n 8)) (by rw [ints_append]) (by unfold maxLen; omega) (by omega)) rfl ?_
  rintro ⟨⟨ao9, c9⟩, hc9⟩
  dsimp only at hc9 ⊢
  refine WL.y (Yl.assign rfl) rfl ?_ -- t5
  refine WL.nil ?_
  refine WC.seq ?_
  refine WC.region ?_
  refine WL.y (Yl.move rfl) rfl ?_ -- t10
  refine WL.y (Yl.move rfl) rfl ?_ -- t11
  refine WL.y (Yl.len un22 rfl) rfl ?_ -- t12
  refine WL.y (Yl.conv un3 un31 rfl (u64_in _ (by omega))) rfl ?_ -- t13
  refine WL.callC (xs := [.tmp 13, _]) (cap := []) rfl rfl en30 (by repeat (first | exact TakeL.nil | (apply TakeL.cons; · repeat (first | exact Take1.head | apply Take1.tail)))) (fun w hw => dnumber_any (b.length : Int) 4 ⟨by omega, by omega⟩ (by omega) w hw.left.here) rfl ?_ -- t14 hailer/hailerref34.number
  intro b14 _
  refine WL.to (To.append (xs := ints .u8 ([72, 68] ++ be n 8)) (news := ints .u8 (be (b.length : Int) 4)) sl22 rfl rfl (by repeat (first | exact Take1.head | apply Take1.tail)) (Reads.of RdOf.own (by repeat (first | exact Take1.head | apply Take1.tail))) (ints_one _ _) (N := 14) rfl (zs := ints .u8 ([72, 68] ++ be n 8 ++ be (b.length : Int) 4)) (by rw [ints_append (xs := [72, 68] ++ be n 8)]) (by unfold maxLen; omega) (by omega)) rfl ?_
  rintro ⟨⟨ao15, c15⟩, hc15⟩
  dsimp only at hc15 ⊢
  refine WL.y (Yl.move rfl) rfl ?_ -- t16
  refine WL.to (To.append (xs := ints .u8 ([72, 68] ++ be n 8 ++ be (b.length : Int) 4)) (news := ints .u8 b) sl22 rfl rfl (by repeat (first | exact Take1.head | apply Take1.tail)) (Reads.s hx) (ints_one _ _) (N := (headF n b).length) (by rw [l4]) (zs := ints .u8 (headF n b)) (by rw [← eH, ints_append (xs := [72, 68] ++ be n 8 ++ be (b.length : Int) 4)]) (by rw [l4]; unfold maxLen; omega) (by rw [l4]; omega)) rfl ?_
  rintro ⟨⟨ao17, c17⟩, hc17⟩
  dsimp only at hc17 ⊢
  refine WL.y (Yl.assign rfl) rfl ?_ -- t5
  refine WL.nil ?_
  refine WC.seq ?_
  refine WC.region ?_
  refine WL.y (Yl.move rfl) rfl ?_ -- t18
  refine WL.y (Yl.move rfl) rfl ?_ -- t19
  refine WL.callC (xs := [.tmp 19, _]) (cap := []) rfl rfl en31 (by repeat (first | exact TakeL.nil | (apply TakeL.cons; · repeat (first | exact Take1.head | apply Take1.tail)))) (fun w hw => rsum32_any (headF n b) (.slice ao17 (headF n b).length c17) (by rw [l4]; omega) w (hw.src (A := []) RdOf.own (by repeat (first | exact Take1.head | apply Take1.tail))) hw.left.here) rfl ?_ -- t20 hailer/hailerref01.Sum
  rintro ⟨a20, c20⟩ -
  rw [← eS]
  dsimp only
  refine WL.fact (p := 32 ≤ c20) (fun w h => by obtain ⟨_, _, he, h1, _⟩ := (Sown.rd (h.get (r := ownR (.slice a20 (8 * 4) c20) 5 1 (8 * 4) (ints .u8 (sum256 (headF n b)))) (by repeat (first | exact Take1.head | apply Take1.tail)))).form; cases he; exact h1) (fun hc20 => ?_)
  refine WL.y (Yl.slice (l := 0) (h := 8) un22 sz5 rfl rfl ⟨_, rfl⟩ (by omega) (by omega)) rfl ?_
  refine WL.to (To.append (xs := ints .u8 (headF n b)) (news := ints .u8 ((sum256 (headF n b)).take 8)) sl22 rfl rfl (by repeat (first | exact Take1.head | apply Take1.tail)) (Reads.of (r := ownR (.slice a20 (8 * 4) c20) 5 1 (8 * 4) (ints .u8 (sum256 (headF n b)))) (RdOf.sub RdOf.own (by omega) (by omega) (by simp [ints_take])) (by repeat (first | exact Take1.head | apply Take1.tail))) (ints_one _ _) (N := (recF n b).length) (by rw [l4, l5]; omega) (zs := ints .u8 (recF n b)) (by unfold recF; rw [ints_append]) (by rw [l5]; unfold maxLen; omega) (by rw [l5]; omega)) rfl ?_
  rintro ⟨⟨ao22, c22⟩, hc22⟩
  dsimp only at hc22 ⊢
  refine WL.y (Yl.assign rfl) rfl ?_ -- t4
  refine WL.nil ?_
  refine WC.ret ?_
  repeat (first | (with_reducible refine peelT ?_) | (with_reducible refine peelB ?_) | (with_reducible refine peelTX ?_) | (with_reducible refine peelBX ?_) | (with_reducible refine peelBN ?_) | (with_reducible refine peelBO rfl ?_))
  exact ret1 (.inr rfl) Try.results20 rfl fun w' h => ⟨(ao22, c22), hc22, rfl, h.sub (by repeat (first | exact TakeL.nil | (apply TakeL.cons; · repeat (first | exact Take1.head | apply Take1.tail))))⟩
end Go.Proofs.Ytjlgmaappebppaa

namespace Go.Proofs.Ytjlgmaappebppaa
open Go Go.RowKit

theorem recB1 {n : Int} {b : List Int} (h : Bytes b) : Bytes (recF n b) := (headF_by h).app (sumB _)
set_option maxRecDepth 100000 in
theorem rwhole_any (x : List Int) (v : Value) (hB : Bytes x) (hl : x.length ≤ 90000) (w : World) (hx : RdS w (fpL []) v 1 x.length (ints .u8 x)) (hw : OK w (fpL []) [] w) :
    Fn Try.prog 21 [v] [] w (fun _ : Unit => True) (fun _ => .tuple #[.int .u64 (whN0 x), whV v x]) (fun _ => []) := by
  obtain ⟨al, cl, rfl, hcl, hml⟩ := hx.rd.form
  have nok : ∀ {w' : World}, whOk x = false → OK w (fpL []) [] w' → ∃ y : Unit, True ∧ Ending.returned (Value.tuple #[.int .u64 0, .slice none 0 0]) = Ending.returned (.tuple #[.int .u64 (whN0 x), whV (.slice al x.length cl) x]) ∧ OK w (fpL []) [] w' := by
    intro w' h h2
    refine ⟨(), trivial, ?_, h2⟩
    unfold whN0 whV
    rw [h]; rfl
  have hN := whN_rng hB
  have hS := whS_rng hB
  have hK := whK_eq hB
  refine enterF Try.func21 rfl Try.ntmps21 rfl hw ?_
  refine WC.seq ?_
  refine WC.region ?_
  refine WL.y (Yl.assign rfl) rfl ?_ -- t2
  refine WL.y (Yl.assign rfl) rfl ?_ -- t3
  refine WL.nil ?_
  refine WC.seq ?_
  refine WC.seq ?_
  refine WC.region ?_
  refine WL.y (Yl.move rfl) rfl ?_ -- t7
  refine WL.y (Yl.len un22 rfl) rfl ?_ -- t8
  refine WL.y (Yl.lss rfl rfl) rfl ?_ -- t9
  refine WL.nil ?_
  refine WC.condD rfl (fun g9 => ?_) (fun g9 => ?_)
  · refine WC.seq ?_
    refine WC.region ?_
    refine WL.y (Yl.assign rfl) rfl ?_ -- t2
    refine WL.y (Yl.assign rfl) rfl ?_ -- t3
    refine WL.nil ?_
    refine WC.ret ?_
    repeat (first | (with_reducible refine peelT ?_) | (with_reducible refine peelB ?_) | (with_reducible refine peelTX ?_) | (with_reducible refine peelBX ?_) | (with_reducible refine peelBN ?_) | (with_reducible refine peelBO rfl ?_))
    exact ret2 (.inr rfl) Try.results21 rfl rfl fun w' h => nok (no_len (by omega)) (h.sub (by repeat (first | exact TakeL.nil | (apply TakeL.cons; · repeat (first | exact Take1.head | apply Take1.tail)))))
  · refine WC.skip ?_
    refine WC.seq ?_
    refine WC.drawAny (Hs := []) mixed (by kernel_rfl) ⟨_, (by repeat (first | exact TakeL.nil | (apply TakeL.cons; · repeat (first | exact Take1.head | apply Take1.tail))))⟩ ?_
    refine WD.take 0 rfl (by kernel_rfl) (by kernel_rfl) (by kernel_rfl) rfl rfl (Yl.move rfl) rfl ?_ -- t10
    refine WD.take 1 rfl (by kernel_rfl) (by kernel_rfl) (by kernel_rfl) rfl rfl (Yl.slice (l := 2) (h := 10) un22 sz5 rfl ⟨_, rfl⟩ ⟨_, rfl⟩ (by omega) (by omega)) rfl ?_
    refine WD.take 3 rfl (by kernel_rfl) (by kernel_rfl) (by kernel_rfl) rfl rfl (Yl.move rfl) rfl ?_ -- t13
    refine WD.take 4 rfl (by kernel_rfl) (by kernel_rfl) (by kernel_rfl) rfl rfl (Yl.slice (l := 10) (h := 14) un22 sz5 rfl ⟨_, rfl⟩ ⟨_, rfl⟩ (by omega) (by omega)) rfl ?_
    refine WD.one 2 (by kernel_rfl) ?_
    refine WO.callC (xs := [.tmp 11]) (cap := []) rfl .no rfl rfl en32 (by repeat (first | exact TakeL.nil | (apply TakeL.cons; · repeat (first | exact Take1.head | apply Take1.tail)))) (fun w hw => dof_any ((x.drop 2).take 8) ((hB.drop 2).take 8) (by simp; omega) _ w (hw.srcS (A := []) (hx.cut 2 10 (by omega) (by omega) rfl)) hw.left.here) rfl (fun _ => ⟨_, (by repeat (first | exact TakeL.nil | (apply TakeL.cons; · repeat (first | exact Take1.head | apply Take1.tail))))⟩) ?_ -- t12 hailer/hailerref34.of
    rintro ⟨⟩ -
    refine WD.one 5 (by kernel_rfl) ?_
    refine WO.callC (xs := [.tmp 14]) (cap := []) rfl .no rfl rfl en32 (by repeat (first | exact TakeL.nil | (apply TakeL.cons; · repeat (first | exact Take1.head | apply Take1.tail)))) (fun w hw => dof_any ((x.drop 10).take 4) ((hB.drop 10).take 4) (by simp; omega) _ w (hw.srcS (A := []) (hx.cut 10 14 (by omega) (by omega) rfl)) hw.left.here) rfl (fun _ => ⟨_, (by repeat (first | exact TakeL.nil | (apply TakeL.cons; · repeat (first | exact Take1.head | apply Take1.tail))))⟩) ?_ -- t15 hailer/hailerref34.of
    rintro ⟨⟩ -
    refine WD.take 6 rfl (by kernel_rfl) (by kernel_rfl) (by kernel_rfl) rfl rfl (Yl.assign rfl) rfl ?_ -- t4
    refine WD.take 7 rfl (by kernel_rfl) (by kernel_rfl) (by kernel_rfl) rfl rfl (Yl.assign rfl) rfl ?_ -- t5
    refine WD.done (by kernel_rfl) ?_
    refine WC.seq ?_
    refine WC.seq ?_
    refine WC.region ?_
    refine WL.y (Yl.move rfl) rfl ?_ -- t16
    refine WL.say (t := 16) (v' := .int .u64 (whN x)) rfl (by rfl) ?_
    refine WL.y (Yl.eql rfl rfl) rfl ?_ -- t17
    refine WL.y (Yl.move rfl) rfl ?_ -- t18
    refine WL.both (t := 18) rfl (fun g18 => ?_) (fun g18 => ?_)
    · refine WL.off rfl rfl rfl rfl ?_ -- t19
      refine WL.off rfl rfl rfl rfl ?_ -- t20
      refine WL.y (Yl.pickT rfl rfl) rfl ?_ -- t21
      refine WL.y (Yl.move rfl) rfl ?_ -- t22
      refine WL.off rfl rfl rfl rfl ?_ -- t23
      refine WL.off rfl rfl rfl rfl ?_ -- t24
      refine WL.off rfl rfl rfl rfl ?_ -- t25
      refine WL.off rfl rfl rfl rfl ?_ -- t26
      refine WL.off rfl rfl rfl rfl ?_ -- t27
      refine WL.off rfl rfl rfl rfl ?_ -- t28
      refine WL.y (Yl.pickT rfl rfl) rfl ?_ -- t29
      refine WL.nil ?_
      refine WC.condT rfl (by first | rfl | (simp; done) | (simp; omega)) ?_
      refine WC.seq ?_
      refine WC.region ?_
      refine WL.y (Yl.assign rfl) rfl ?_ -- t2
      refine WL.y (Yl.assign rfl) rfl ?_ -- t3
      refine WL.nil ?_
      refine WC.ret ?_
      repeat (first | (with_reducible refine peelT ?_) | (with_reducible refine peelB ?_) | (with_reducible refine peelTX ?_) | (with_reducible refine peelBX ?_) | (with_reducible refine peelBN ?_) | (with_reducible refine peelBO rfl ?_))
      exact ret2 (.inr rfl) Try.results21 rfl rfl fun w' h => nok (whOk_F1 (by have := of_decide_eq_true g18; unfold whFit; rw [decide_eq_false (p := whN x ≠ 0) (by omega)]; simp)) (h.sub (by repeat (first | exact TakeL.nil | (apply TakeL.cons; · repeat (first | exact Take1.head | apply Take1.tail)))))
    · refine WL.on rfl rfl ?_
      refine WL.y (Yl.move rfl) rfl ?_ -- t19
      refine WL.say (t := 19) (v' := .int .u64 (whS x)) rfl (by rfl) ?_
      refine WL.on rfl rfl ?_
      refine WL.y (Yl.gtr rfl rfl) rfl ?_ -- t20
      refine WL.y (Yl.pickF rfl rfl) rfl ?_ -- t21
      refine WL.y (Yl.move rfl) rfl ?_ -- t22
      refine WL.both (t := 22) rfl (fun g22 => ?_) (fun g22 => ?_)
      · refine WL.off rfl rfl rfl rfl ?_ -- t23
        refine WL.off rfl rfl rfl rfl ?_ -- t24
        refine WL.off rfl rfl rfl rfl ?_ -- t25
        refine WL.off rfl rfl rfl rfl ?_ -- t26
        refine WL.off rfl rfl rfl rfl ?_ -- t27
        refine WL.off rfl rfl rfl rfl ?_ -- t28
        refine WL.y (Yl.pickT rfl rfl) rfl ?_ -- t29
        refine WL.nil ?_
        refine WC.condT rfl (by first | rfl | (simp; done) | (simp; omega)) ?_
        refine WC.seq ?_
        refine WC.region ?_
        refine WL.y (Yl.assign rfl) rfl ?_ -- t2
        refine WL.y (Yl.assign rfl) rfl ?_ -- t3
        refine WL.nil ?_
        refine WC.ret ?_
        repeat (first | (with_reducible refine peelT ?_) | (with_reducible refine peelB ?_) | (with_reducible refine peelTX ?_) | (with_reducible refine peelBX ?_) | (with_reducible refine peelBN ?_) | (with_reducible refine peelBO rfl ?_))
        exact ret2 (.inr rfl) Try.results21 rfl rfl fun w' h => nok (whOk_F1 (by have := of_decide_eq_true g22; unfold whFit; rw [decide_eq_false (p := whS x ≤ 8388608) (by omega)]; simp)) (h.sub (by repeat (first | exact TakeL.nil | (apply TakeL.cons; · repeat (first | exact Take1.head | apply Take1.tail)))))
      · refine WL.on rfl rfl ?_
        refine WL.y (Yl.move rfl) rfl ?_ -- t23
        refine WL.say (t := 23) (v' := .int .u64 (whS x)) rfl (by rfl) ?_
        refine WL.on rfl rfl ?_
        refine WL.y (Yl.move rfl) rfl ?_ -- t24
        refine WL.on rfl rfl ?_
        refine WL.y (Yl.len un22 rfl) rfl ?_ -- t25
        refine WL.on rfl rfl ?_
        refine WL.y (Yl.sub rfl rfl (IntWalk.i64_in _ (by omega))) rfl ?_ -- t26
        refine WL.on rfl rfl ?_
        have hk0 : whS x ≤ 8388608 := by have := of_decide_eq_false g22; omega
        refine WL.y (Yl.conv un3 un31 rfl (u64_in _ (by omega))) rfl ?_ -- t27
        refine WL.on rfl rfl ?_
        refine WL.y (Yl.gtr rfl rfl) rfl ?_ -- t28
        refine WL.y (Yl.pickF rfl rfl) rfl ?_ -- t29
        refine WL.nil ?_
        refine WC.condD rfl (fun g29 => ?_) (fun g29 => ?_)
        · refine WC.seq ?_
          refine WC.region ?_
          refine WL.y (Yl.assign rfl) rfl ?_ -- t2
          refine WL.y (Yl.assign rfl) rfl ?_ -- t3
          refine WL.nil ?_
          refine WC.ret ?_
          repeat (first | (with_reducible refine peelT ?_) | (with_reducible refine peelB ?_) | (with_reducible refine peelTX ?_) | (with_reducible refine peelBX ?_) | (with_reducible refine peelBN ?_) | (with_reducible refine peelBO rfl ?_))
          exact ret2 (.inr rfl) Try.results21 rfl rfl fun w' h => nok (whOk_F1 (by unfold whFit; rw [decide_eq_false (p := whK x ≤ x.length - 22) (by omega)]; simp)) (h.sub (by repeat (first | exact TakeL.nil | (apply TakeL.cons; · repeat (first | exact Take1.head | apply Take1.tail)))))
        · refine WC.skip ?_
          refine WC.seq ?_
          have hkl : whK x + 22 ≤ x.length := by omega
          have hfit : whFit x = true := by
            have n0 := of_decide_eq_false g18
            unfold whFit
            rw [decide_eq_true (by omega), decide_eq_true n0, decide_eq_true hk0, decide_eq_true (by omega)]; rfl
          have hbl := whB_len hfit
          refine WC.region ?_
          refine WL.y (Yl.move rfl) rfl ?_ -- t30
          refine WL.y (Yl.move rfl) rfl ?_ -- t31
          refine WL.say (t := 31) (v' := .int .u64 (whS x)) rfl (by rfl) ?_
          refine WL.y (Yl.add rfl rfl (u64_in _ (by omega))) rfl ?_
          refine WL.say (t := 32) (v' := .int .u64 ((14 + whK x : Nat) : Int)) rfl (by (refine congrArg _ ?_; omega)) ?_
          refine WL.y (Yl.slice (l := 14) (h := 14 + whK x) un22 sz5 rfl ⟨_, rfl⟩ ⟨_, rfl⟩ (by omega) (by omega)) rfl ?_
          refine WL.y (Yl.assign rfl) rfl ?_ -- t6
          refine WL.nil ?_
          refine WC.seq ?_
          refine WC.seq ?_
          refine WC.drawAny (Hs := []) mixed (by kernel_rfl) ⟨_, (by repeat (first | exact TakeL.nil | (apply TakeL.cons; · repeat (first | exact Take1.head | apply Take1.tail))))⟩ ?_
          refine WD.take 0 rfl (by kernel_rfl) (by kernel_rfl) (by kernel_rfl) rfl rfl (Yl.move rfl) rfl ?_ -- t34
          refine WD.say (t := 34) (v' := .int .u64 (whN x)) rfl (by rfl) ?_
          refine WD.take 1 rfl (by kernel_rfl) (by kernel_rfl) (by kernel_rfl) rfl rfl (Yl.move rfl) rfl ?_ -- t35
          refine WD.take 4 rfl (by kernel_rfl) (by kernel_rfl) (by kernel_rfl) rfl rfl (Yl.move rfl) rfl ?_ -- t38
          refine WD.take 5 rfl (by kernel_rfl) (by kernel_rfl) (by kernel_rfl) rfl rfl (Yl.move rfl) rfl ?_ -- t39
          refine WD.say (t := 39) (v' := .int .u64 (whS x)) rfl (by rfl) ?_
          refine WD.take 6 rfl (by kernel_rfl) (by kernel_rfl) (by kernel_rfl) rfl rfl (Yl.add rfl rfl (u64_in _ (by omega))) rfl ?_
          refine WD.say (t := 40) (v' := .int .u64 ((22 + whK x : Nat) : Int)) rfl (by (refine congrArg _ ?_; omega)) ?_
          refine WD.take 7 rfl (by kernel_rfl) (by kernel_rfl) (by kernel_rfl) rfl rfl (Yl.slice (l := 0) (h := 22 + whK x) un22 sz5 rfl rfl ⟨_, rfl⟩ (by omega) (by omega)) rfl ?_
          refine WD.take 8 rfl (by kernel_rfl) (by kernel_rfl) (by kernel_rfl) rfl rfl (Yl.toStr un22 un5 un9 rfl (Reads.s (hx.cut 0 (22 + whK x) (zs := x.take (22 + whK x)) (by omega) (by omega) rfl))) rfl ?_ -- t42
          refine WD.one 2 (by kernel_rfl) ?_
          refine WO.callC (xs := [.tmp 34, .tmp 35]) (cap := []) rfl .no rfl rfl en20 (by repeat (first | exact TakeL.nil | (apply TakeL.cons; · repeat (first | exact Take1.head | apply Take1.tail)))) (fun w hw => rrecord_any (whN x) (whB x) (subS (.slice al x.length cl) 14 (14 + whK x) cl 1) ((hB.drop 14).take _) hN (by omega) w (hw.srcS (A := []) (hx.cut 14 (14 + whK x) (by omega) (by omega) (by rw [show 14 + whK x - 14 = whK x by omega]; rfl))) hw.left.here) rfl (fun _ => ⟨_, (by repeat (first | exact TakeL.nil | (apply TakeL.cons; · repeat (first | exact Take1.head | apply Take1.tail))))⟩) ?_ -- t36 hailer/hailerref34.Record
          rintro ⟨a36, c36⟩ hc36
          dsimp only at hc36 ⊢
          refine WD.one 3 (by kernel_rfl) ?_
          refine WO.y rfl rfl .no (Yl.toStr un22 un5 un9 rfl (Reads.of (r := ownR (.slice a36 (recF (whN x) (whB x)).length c36) 5 1 (recF (whN x) (whB x)).length (ints .u8 (recF (whN x) (whB x)))) RdOf.own (by repeat (first | exact Take1.head | apply Take1.tail)))) rfl ?_ -- t37
          refine WD.take 9 rfl (by kernel_rfl) (by kernel_rfl) (by kernel_rfl) rfl rfl (Yl.sNe rfl rfl) rfl ?_ -- t43
          refine WD.done (by kernel_rfl) ?_
          refine WC.cond rfl (fun g43 => ?_) (fun g43 => ?_)
          · refine WC.seq ?_
            refine WC.region ?_
            refine WL.y (Yl.assign rfl) rfl ?_ -- t2
            refine WL.y (Yl.assign rfl) rfl ?_ -- t3
            refine WL.nil ?_
            refine WC.ret ?_
            repeat (first | (with_reducible refine peelT ?_) | (with_reducible refine peelB ?_) | (with_reducible refine peelTX ?_) | (with_reducible refine peelBX ?_) | (with_reducible refine peelBN ?_) | (with_reducible refine peelBO rfl ?_))
            exact ret2 (.inr rfl) Try.results21 rfl rfl fun w' h => nok (by rw [← rwh_eq hB hfit]; have := notT g43; rw [strEq (recB1 (show Bytes (whB x) from (hB.drop 14).take _)) (hB.take _)] at this; exact this) (h.sub (by repeat (first | exact TakeL.nil | (apply TakeL.cons; · repeat (first | exact Take1.head | apply Take1.tail)))))
          · refine WC.skip ?_
            refine WC.seq ?_
            refine WC.region ?_
            refine WL.y (Yl.move rfl) rfl ?_ -- t44
            refine WL.say (t := 44) (v' := .int .u64 (whN x)) rfl (by rfl) ?_
            refine WL.y (Yl.move rfl) rfl ?_ -- t45
            refine WL.y (Yl.assign rfl) rfl ?_ -- t2
            refine WL.y (Yl.assign rfl) rfl ?_ -- t3
            refine WL.nil ?_
            refine WC.ret ?_
            repeat (first | (with_reducible refine peelT ?_) | (with_reducible refine peelB ?_) | (with_reducible refine peelTX ?_) | (with_reducible refine peelBX ?_) | (with_reducible refine peelBN ?_) | (with_reducible refine peelBO rfl ?_))
            have hok : whOk x = true := by
              rw [← rwh_eq hB hfit]; have := notF g43; rw [strEq (recB1 (show Bytes (whB x) from (hB.drop 14).take _)) (hB.take _)] at this; exact this
            exact ret2 (.inr rfl) Try.results21 rfl rfl fun w' h => ⟨(), trivial, by unfold whN0 whV; rw [hok]; rfl, h.sub (by repeat (first | exact TakeL.nil | (apply TakeL.cons; · repeat (first | exact Take1.head | apply Take1.tail))))⟩

theorem rnw {x y : List Int} (hX : Bytes x) (hY : Bytes y) : (whN0 x < whN0 y → nwS x y = 1) ∧ (¬ whN0 x < whN0 y → 0 < whN0 x → nwS x y = 0) ∧ (¬ whN0 x < whN0 y → ¬ 0 < whN0 x → nwS x y = -1) := by
  have h1 := whN_rng hX
  have h2 := whN_rng hY
  unfold whN0 nwS
  cases e1 : whOk x with
  | false =>
    cases e2 : whOk y with
    | false => simp
    | true =>
      have := (whFit_T (whOk_fit e2)).2.1
      simp; omega
  | true =>
    have := (whFit_T (whOk_fit e1)).2.1
    cases e2 : whOk y with
    | false => simp; omega
    | true =>
      have := (whFit_T (whOk_fit e2)).2.1
      simp; omega

theorem rnewest_any (x y : List Int) (v0 v1 : Value) (hX : Bytes x) (hY : Bytes y) (hxl : x.length ≤ 90000) (hyl : y.length ≤ 90000) (w : World) (hx : RdS w (fpL []) v0 1 x.length (ints .u8 x)) (hy : RdS w (fpL []) v1 1 y.length (ints .u8 y)) (hw : OK w (fpL []) [] w) :
    Fn Try.prog 12 [v0, v1] [] w (fun _ : Unit => True) (fun _ => .tuple #[.int .i64 (nwS x y), .int .u64 (nwN x y), nwV v0 v1 x y]) (fun _ => []) := by
  obtain ⟨r1, r2, r3⟩ := rnw hX hY
  have hN1 := whN_rng hX
  refine enterF Try.func12 rfl Try.ntmps12 rfl hw ?_
  refine WC.seq ?_
  refine WC.region ?_
  refine WL.y (Yl.assign rfl) rfl ?_ -- t4
  refine WL.y (Yl.assign rfl) rfl ?_ -- t5
  refine WL.y (Yl.assign rfl) rfl ?_ -- t6
  refine WL.nil ?_
  refine WC.seq ?_
  refine WC.region ?_
  refine WL.y (Yl.move rfl) rfl ?_ -- t12
  refine WL.callC (xs := [.tmp 12]) (cap := []) rfl rfl en21 (by repeat (first | exact TakeL.nil | (apply TakeL.cons; · repeat (first | exact Take1.head | apply Take1.tail)))) (fun w hw => rwhole_any x v0 hX hxl w (hw.srcS (A := []) hx) hw.left.here) rfl ?_ -- t13 hailer/hailerref34.Whole
  rintro ⟨⟩ -
  refine WL.y (Yl.move rfl) rfl ?_ -- t11
  refine WL.y (Yl.extract rfl rfl) rfl ?_ -- t14
  refine WL.say (t := 14) (v' := .int .u64 (whN0 x)) rfl (by rfl) ?_
  refine WL.y (Yl.extract rfl rfl) rfl ?_ -- t15
  refine WL.y (Yl.assign rfl) rfl ?_ -- t7
  refine WL.y (Yl.assign rfl) rfl ?_ -- t8
  refine WL.nil ?_
  refine WC.seq ?_
  refine WC.region ?_
  refine WL.y (Yl.move rfl) rfl ?_ -- t17
  refine WL.callC (xs := [.tmp 17]) (cap := []) rfl rfl en21 (by repeat (first | exact TakeL.nil | (apply TakeL.cons; · repeat (first | exact Take1.head | apply Take1.tail)))) (fun w hw => rwhole_any y v1 hY hyl w (hw.srcS (A := []) hy) hw.left.here) rfl ?_ -- t18 hailer/hailerref34.Whole
  rintro ⟨⟩ -
  refine WL.y (Yl.move rfl) rfl ?_ -- t16
  refine WL.y (Yl.extract rfl rfl) rfl ?_ -- t19
  refine WL.say (t := 19) (v' := .int .u64 (whN0 y)) rfl (by rfl) ?_
  refine WL.y (Yl.extract rfl rfl) rfl ?_ -- t20
  refine WL.y (Yl.assign rfl) rfl ?_ -- t9
  refine WL.y (Yl.assign rfl) rfl ?_ -- t10
  refine WL.nil ?_
  refine WC.seq ?_
  refine WC.seq ?_
  refine WC.region ?_
  refine WL.y (Yl.move rfl) rfl ?_ -- t21
  refine WL.y (Yl.move rfl) rfl ?_ -- t22
  refine WL.y (Yl.gtr rfl rfl) rfl ?_ -- t23
  refine WL.nil ?_
  refine WC.condD rfl (fun g23 => ?_) (fun g23 => ?_)
  · refine WC.seq ?_
    refine WC.region ?_
    refine WL.y (Yl.move rfl) rfl ?_ -- t24
    refine WL.y (Yl.move rfl) rfl ?_ -- t25
    refine WL.y (Yl.assign rfl) rfl ?_ -- t4
    refine WL.y (Yl.assign rfl) rfl ?_ -- t5
    refine WL.y (Yl.assign rfl) rfl ?_ -- t6
    refine WL.nil ?_
    refine WC.ret ?_
    repeat (first | (with_reducible refine peelT ?_) | (with_reducible refine peelB ?_) | (with_reducible refine peelTX ?_) | (with_reducible refine peelBX ?_) | (with_reducible refine peelBN ?_) | (with_reducible refine peelBO rfl ?_))
    have hs := r1 g23
    have hok : whOk y = true := by
      cases e : whOk y with
      | true => rfl
      | false => exfalso; have h0 : whN0 y = 0 := by unfold whN0; rw [e]; rfl
                 have : 0 ≤ whN0 x := by unfold whN0; split <;> omega
                 omega
    exact ret3 (.inr rfl) Try.results12 rfl rfl rfl fun w' h => ⟨(), trivial, by unfold nwN nwV; rw [hs]; unfold whN0; rw [hok]; rfl, h.sub (by repeat (first | exact TakeL.nil | (apply TakeL.cons; · repeat (first | exact Take1.head | apply Take1.tail))))⟩
  · refine WC.skip ?_
    refine WC.seq ?_
    refine WC.seq ?_
    refine WC.region ?_
    refine WL.y (Yl.move rfl) rfl ?_ -- t26
    refine WL.y (Yl.gtr rfl rfl) rfl ?_ -- t27
    refine WL.nil ?_
    refine WC.condD rfl (fun g27 => ?_) (fun g27 => ?_)
    · refine WC.seq ?_
      refine WC.region ?_
      refine WL.y (Yl.move rfl) rfl ?_ -- t28
      refine WL.y (Yl.move rfl) rfl ?_ -- t29
      refine WL.y (Yl.assign rfl) rfl ?_ -- t4
      refine WL.y (Yl.assign rfl) rfl ?_ -- t5
      refine WL.y (Yl.assign rfl) rfl ?_ -- t6
      refine WL.nil ?_
      refine WC.ret ?_
      repeat (first | (with_reducible refine peelT ?_) | (with_reducible refine peelB ?_) | (with_reducible refine peelTX ?_) | (with_reducible refine peelBX ?_) | (with_reducible refine peelBN ?_) | (with_reducible refine peelBO rfl ?_))
      have hs := r2 g23 g27
      have hok : whOk x = true := by
        cases e : whOk x with
        | true => rfl
        | false => exfalso; have h0 : whN0 x = 0 := by unfold whN0; rw [e]; rfl
                   omega
      exact ret3 (.inr rfl) Try.results12 rfl rfl rfl fun w' h => ⟨(), trivial, by unfold nwN nwV; rw [hs]; unfold whN0; rw [hok]; rfl, h.sub (by repeat (first | exact TakeL.nil | (apply TakeL.cons; · repeat (first | exact Take1.head | apply Take1.tail))))⟩
    · refine WC.skip ?_
      refine WC.seq ?_
      refine WC.region ?_
      refine WL.y (Yl.assign rfl) rfl ?_ -- t4
      refine WL.y (Yl.assign rfl) rfl ?_ -- t5
      refine WL.y (Yl.assign rfl) rfl ?_ -- t6
      refine WL.nil ?_
      refine WC.ret ?_
      repeat (first | (with_reducible refine peelT ?_) | (with_reducible refine peelB ?_) | (with_reducible refine peelTX ?_) | (with_reducible refine peelBX ?_) | (with_reducible refine peelBN ?_) | (with_reducible refine peelBO rfl ?_))
      have hs := r3 g23 g27
      exact ret3 (.inr rfl) Try.results12 rfl rfl rfl fun w' h => ⟨(), trivial, by unfold nwN nwV; rw [hs]; rfl, h.sub (by repeat (first | exact TakeL.nil | (apply TakeL.cons; · repeat (first | exact Take1.head | apply Take1.tail))))⟩

/-- Four results. -/
theorem ret4 {c : Cx} {fn : Func} {R : Ending → World → Prop} {e : Exit} {env : Env} {H : List Res} {t u s r : Nat} {v x y z : Value} (he : e = .normal ∨ e = .ret) (hr : fn.results = #[.tmp t, .tmp u, .tmp s, .tmp r]) (hv : Env.get env t = some v) (hx : Env.get env u = some x) (hy : Env.get env s = some y) (hz : Env.get env r = some z) (h : ∀ w, OK c.w0 c.S H w → R (.returned (.tuple #[v, x, y, z])) w) : retS c fn R e env [] H := by
  refine retG he (fun tmps w ht hw => ?_) h
  simp [results, hr, ht t _ hv, ht u _ hx, ht s _ hy, ht r _ hz]

abbrev pairR (v0 v1 : Value) (x y : List Int) : List Res := [rdR v0 1 x.length (ints .u8 x), rdR v1 1 y.length (ints .u8 y)]

set_option maxRecDepth 100000 in
theorem rwrite_any (x y bs : List Int) (v0 v1 bv : Value) (torn : Int) (hX : Bytes x) (hY : Bytes y) (hB : Bytes bs) (hxl : x.length ≤ 90000) (hyl : y.length ≤ 90000) (hbl : bs.length ≤ 80000) (w : World) (hb : RdS w (fpL (pairR v0 v1 x y)) bv 1 bs.length (ints .u8 bs)) (hw : OK w (fpL (pairR v0 v1 x y)) (pairR v0 v1 x y) w) :
    Fn Try.prog 8 [v0, v1, bv, .int .i64 torn] (pairR v0 v1 x y) w (fun _ : (Option Addr × Nat) × (Option Addr × Nat) => True)
      (fun z => .tuple #[.slice z.1.1 (wrX x y bs torn).length z.1.2, .slice z.2.1 (wrY x y bs torn).length z.2.2, .int .u64 (wrN x y bs torn), .int .i64 (wrE x y bs torn)])
      (fun z => pairR (.slice z.1.1 (wrX x y bs torn).length z.1.2) (.slice z.2.1 (wrY x y bs torn).length z.2.2) (wrX x y bs torn) (wrY x y bs torn)) := by
  obtain ⟨a0, c0, rfl, hc0, hm0⟩ := (hw.get (r := rdR v0 1 x.length (ints .u8 x)) .head : Rd _ _ _ _ _).form
  obtain ⟨a1, c1, rfl, hc1, hm1⟩ := (hw.get (r := rdR v1 1 y.length (ints .u8 y)) (.tail .head) : Rd _ _ _ _ _).form
  obtain ⟨ab, cb, rfl, hcb, hmb⟩ := hb.rd.form
  have hN := nwN_rng hX hY
  have hrl : (recF (nwN x y + 1) bs).length = 22 + bs.length := recF_len _ _
  have eT : wrT x y bs torn = (decide (0 ≤ torn) && decide (torn < ((recF (nwN x y + 1) bs).length : Int))) := rfl
  have eW : wrW x y bs torn = if wrT x y bs torn then (recF (nwN x y + 1) bs).take torn.toNat ++ (if nwS x y = 0 then y else x).drop torn.toNat else recF (nwN x y + 1) bs := rfl
  unfold pairR at hw hb ⊢
  refine enterF Try.func8 rfl Try.ntmps8 rfl hw ?_
  refine WC.seq ?_
  refine WC.region ?_
  refine WL.y (Yl.assign rfl) rfl ?_ -- t8
  refine WL.y (Yl.assign rfl) rfl ?_ -- t9
  refine WL.y (Yl.assign rfl) rfl ?_ -- t10
  refine WL.y (Yl.assign rfl) rfl ?_ -- t11
  refine WL.nil ?_
  refine WC.seq ?_
  refine WC.seq ?_
  refine WC.region ?_
  refine WL.y (Yl.move rfl) rfl ?_ -- t20
  refine WL.y (Yl.len un22 rfl) rfl ?_ -- t21
  refine WL.y (Yl.gtr rfl rfl) rfl ?_ -- t22
  refine WL.nil ?_
  refine WC.condF rfl (by first | rfl | (simp; done) | (simp; omega)) ?_
  refine WC.skip ?_
  refine WC.seq ?_
  refine WC.region ?_
  refine WL.y (Yl.move rfl) rfl ?_ -- t26
  refine WL.y (Yl.move rfl) rfl ?_ -- t27
  refine WL.callC (xs := [.tmp 26, .tmp 27]) (cap := []) rfl rfl en12 (by repeat (first | exact TakeL.nil | (apply TakeL.cons; · repeat (first | exact Take1.head | apply Take1.tail)))) (fun w hw => rnewest_any x y (.slice a0 x.length c0) (.slice a1 y.length c1) hX hY hxl hyl w (hw.src (A := []) (r := rdR (.slice a0 x.length c0) 1 x.length (ints .u8 x)) RdOf.rd' (by repeat (first | exact Take1.head | apply Take1.tail))) (hw.src (A := []) (r := rdR (.slice a1 y.length c1) 1 y.length (ints .u8 y)) RdOf.rd' (by repeat (first | exact Take1.head | apply Take1.tail))) hw.left.here) rfl ?_ -- t28 hailer/hailerref34.Newest
  rintro ⟨⟩ -
  refine WL.y (Yl.move rfl) rfl ?_ -- t25
  refine WL.y (Yl.extract rfl rfl) rfl ?_ -- t29
  refine WL.say (t := 29) (v' := .int .i64 (nwS x y)) rfl (by rfl) ?_
  refine WL.y (Yl.extract rfl rfl) rfl ?_ -- t30
  refine WL.say (t := 30) (v' := .int .u64 (nwN x y)) rfl (by rfl) ?_
  refine WL.y (Yl.extract rfl rfl) rfl ?_ -- t31
  refine WL.y (Yl.assign rfl) rfl ?_ -- t12
  refine WL.y (Yl.assign rfl) rfl ?_ -- t13
  refine WL.y (Yl.assign rfl) rfl ?_ -- t14
  refine WL.nil ?_
  refine WC.seq ?_
  refine WC.seq ?_
  refine WC.region ?_
  refine WL.y (Yl.move rfl) rfl ?_ -- t32
  refine WL.y (Yl.eql rfl rfl) rfl ?_ -- t33
  refine WL.nil ?_
  refine WC.condD rfl (fun g33 => ?_) (fun g33 => ?_)
  · refine WC.seq ?_
    refine WC.region ?_
    refine WL.y (Yl.move rfl) rfl ?_ -- t34
    refine WL.y (Yl.move rfl) rfl ?_ -- t35
    refine WL.y (Yl.assign rfl) rfl ?_ -- t8
    refine WL.y (Yl.assign rfl) rfl ?_ -- t9
    refine WL.y (Yl.assign rfl) rfl ?_ -- t10
    refine WL.y (Yl.assign rfl) rfl ?_ -- t11
    refine WL.nil ?_
    refine WC.ret ?_
    repeat (first | (with_reducible refine peelT ?_) | (with_reducible refine peelB ?_) | (with_reducible refine peelTX ?_) | (with_reducible refine peelBX ?_) | (with_reducible refine peelBN ?_) | (with_reducible refine peelBO rfl ?_))
    have hf : wrFull x y := g33
    have e1 : wrX x y bs torn = x := by unfold wrX; rw [if_pos hf]
    have e2 : wrY x y bs torn = y := by unfold wrY; rw [if_pos hf]
    have e3 : wrN x y bs torn = 0 := by unfold wrN; rw [if_pos hf]
    have e4 : wrE x y bs torn = 7 := by unfold wrE; rw [if_pos hf]
    rw [e1, e2, e3, e4]
    exact ret4 (.inr rfl) Try.results8 rfl rfl rfl rfl fun w' h => ⟨((a0, c0), (a1, c1)), trivial, rfl, h.sub (by repeat (first | exact TakeL.nil | (apply TakeL.cons; · repeat (first | exact Take1.head | apply Take1.tail))))⟩
  · refine WC.skip ?_
    refine WC.seq ?_
    have hf : ¬ wrFull x y := g33
    refine WC.region ?_
    refine WL.y (Yl.move rfl) rfl ?_ -- t36
    refine WL.y (Yl.assign rfl) rfl ?_ -- t15
    refine WL.nil ?_
    refine WC.seq ?_
    refine WC.seq ?_
    refine WC.region ?_
    refine WL.y (Yl.move rfl) rfl ?_ -- t37
    refine WL.y (Yl.eql rfl rfl) rfl ?_ -- t38
    refine WL.nil ?_
    refine WC.condD rfl (fun g38 => ?_) (fun g38 => ?_)
    · refine WC.region ?_
      refine WL.y (Yl.move rfl) rfl ?_ -- t39
      refine WL.y (Yl.assign rfl) rfl ?_ -- t15
      refine WL.nil ?_
      refine WC.seq ?_
      refine WC.region ?_
      refine WL.y (Yl.move rfl) rfl ?_ -- t40
      refine WL.y (Yl.add rfl rfl (u64_in _ (by omega))) rfl ?_
      refine WL.y (Yl.move rfl) rfl ?_ -- t42
      refine WL.callC (xs := [.tmp 41, .tmp 42]) (cap := []) rfl rfl en20 (by repeat (first | exact TakeL.nil | (apply TakeL.cons; · repeat (first | exact Take1.head | apply Take1.tail)))) (fun w hw => rrecord_any (nwN x y + 1) bs (.slice ab bs.length cb) hB (by omega) (by omega) w (hw.srcS (A := []) hb) hw.left.here) rfl ?_ -- t43 hailer/hailerref34.Record
      rintro ⟨aR, cR⟩ hcR
      dsimp only at hcR ⊢
      obtain ⟨R, hR⟩ : ∃ R, recF (nwN x y + 1) bs = R := ⟨_, rfl⟩
      rw [hR] at hrl eT eW hcR ⊢
      refine WL.view (fun w h => h.readOnly (v := .slice aR R.length cR) (by repeat (first | exact Take1.head | apply Take1.tail))) ?_
      refine WL.y (Yl.assign rfl) rfl ?_ -- t16
      refine WL.nil ?_
      refine WC.seq ?_
      refine WC.region ?_
      refine WL.y (Yl.assign rfl) rfl ?_ -- t17
      refine WL.nil ?_
      refine WC.seq ?_
      refine WC.region ?_
      refine WL.y (Yl.move rfl) rfl ?_ -- t44
      refine WL.y (Yl.add rfl rfl (u64_in _ (by omega))) rfl ?_
      refine WL.y (Yl.assign rfl) rfl ?_ -- t18
      refine WL.nil ?_
      refine WC.seq ?_
      refine WC.seq ?_
      refine WC.region ?_
      refine WL.y (Yl.move rfl) rfl ?_ -- t46
      refine WL.y (Yl.geq rfl rfl) rfl ?_ -- t47
      refine WL.y (Yl.move rfl) rfl ?_ -- t48
      refine WL.both (t := 48) rfl (fun g48 => ?_) (fun g48 => ?_)
      · refine WL.on rfl rfl ?_
        refine WL.y (Yl.move rfl) rfl ?_ -- t49
        refine WL.on rfl rfl ?_
        refine WL.y (Yl.move rfl) rfl ?_ -- t50
        refine WL.on rfl rfl ?_
        refine WL.y (Yl.len un22 rfl) rfl ?_ -- t51
        refine WL.on rfl rfl ?_
        refine WL.y (Yl.lss rfl rfl) rfl ?_ -- t52
        refine WL.y (Yl.pickT rfl rfl) rfl ?_ -- t53
        refine WL.nil ?_
        refine WC.condD rfl (fun g53 => ?_) (fun g53 => ?_)
        · refine WC.seq ?_
          have hT : wrT x y bs torn = true := by rw [eT, decide_eq_true (p := 0 ≤ torn) (of_decide_eq_true g48), decide_eq_true (p := torn < (R.length : Int)) g53]; rfl
          have ht0 : 0 ≤ torn := of_decide_eq_true g48
          obtain ⟨k, rfl⟩ : ∃ k : Nat, torn = (k : Int) := ⟨torn.toNat, by omega⟩
          have hkR : k ≤ R.length := by omega
          rw [hT, if_pos rfl, Int.toNat_natCast] at eW
          refine WC.region ?_
          refine WL.y (Yl.assign rfl) rfl ?_ -- t17
          refine WL.nil ?_
          refine WC.seq ?_
          refine WC.region ?_
          refine WL.y (Yl.assign rfl) rfl ?_ -- t18
          refine WL.nil ?_
          refine WC.seq ?_
          refine WC.region ?_
          refine WL.to (To.buildSlice (vs := []) un22 zs5 rfl rfl (by simp [Value.cells]) (by decide) (by decide)) rfl ?_ -- t54
          intro b54
          refine WL.view (fun w h => h.blkOwn (b := b54) (size := 1) (n := 0) (by repeat (first | exact Take1.head | apply Take1.tail)) (by unfold maxLen; omega) rfl) ?_
          refine WL.y (Yl.assign rfl) rfl ?_ -- t19
          refine WL.nil ?_
          refine WC.seq ?_
          refine WC.seq ?_
          refine WC.region ?_
          refine WL.y (Yl.move rfl) rfl ?_ -- t55
          refine WL.y (Yl.move rfl) rfl ?_ -- t56
          refine WL.y (Yl.len un22 rfl) rfl ?_ -- t57
          refine WL.y (Yl.lss rfl rfl) rfl ?_ -- t58
          refine WL.nil ?_
          refine WC.condD rfl (fun g58 => ?_) (fun g58 => ?_)
          · refine WC.region ?_
            refine WL.y (Yl.move rfl) rfl ?_ -- t59
            refine WL.y (Yl.move rfl) rfl ?_ -- t60
            refine WL.y (Yl.slice (l := k) (h := y.length) un22 sz5 rfl ⟨_, rfl⟩ rfl (by omega) (by omega)) rfl ?_
            refine WL.y (Yl.assign rfl) rfl ?_ -- t19
            refine WL.nil ?_
            refine WC.region ?_
            refine WL.to (To.buildSlice (vs := []) un22 zs5 rfl rfl (by simp [Value.cells]) (by decide) (by decide)) rfl ?_ -- t62
            intro b62
            refine WL.view (fun w h => h.blkOwn (b := b62) (size := 1) (n := 0) (by repeat (first | exact Take1.head | apply Take1.tail)) (by unfold maxLen; omega) rfl) ?_
            refine WL.y (Yl.move rfl) rfl ?_ -- t63
            refine WL.y (Yl.move rfl) rfl ?_ -- t64
            refine WL.y (Yl.slice (l := 0) (h := k) un22 sz5 rfl rfl ⟨_, rfl⟩ (by omega) (by omega)) rfl ?_
            refine WL.to (To.append (xs := []) (news := ints .u8 (R.take k)) sl22 rfl rfl (F := _) (n := 0) (v := .slice (some ⟨b62, 0, none⟩) 0 0) (by repeat (first | exact Take1.head | apply Take1.tail)) (Reads.of (r := rdR (.slice aR R.length cR) 1 R.length (ints .u8 R)) (RdOf.sub RdOf.rd' (by omega) (by omega) (by simp [ints_take])) (by repeat (first | exact Take1.head | apply Take1.tail))) (ints_one _ _) (N := k) (by omega) (zs := ints .u8 (R.take k)) (List.nil_append _) (by unfold maxLen; omega) (by omega)) rfl ?_
            rintro ⟨⟨ao66, c66⟩, hc66⟩
            dsimp only at hc66 ⊢
            refine WL.y (Yl.move rfl) rfl ?_ -- t67
            refine WL.to (To.append sl22 rfl rfl (by repeat (first | exact Take1.head | apply Take1.tail)) (Reads.of (r := rdR (.slice a1 y.length c1) 1 y.length (ints .u8 y)) (RdOf.cut RdOf.rd' k y.length (zs := y.drop k) (by omega) (by omega) (by rw [List.take_of_length_le (by simp)])) (by repeat (first | exact Take1.head | apply Take1.tail))) (ints_one _ _) (show k + (y.drop k).length = (R.take k ++ y.drop k).length by rw [List.length_append, List.length_take, Nat.min_eq_left hkR]) (show _ = ints .u8 (R.take k ++ y.drop k) by rw [ints_append]) (by rw [List.length_append, List.length_take, List.length_drop]; unfold maxLen; omega) (by rw [List.length_append, List.length_take, List.length_drop]; omega)) rfl ?_ -- t68
            rintro ⟨⟨ao68, c68⟩, hc68⟩
            dsimp only at hc68 ⊢
            refine WL.y (Yl.assign rfl) rfl ?_ -- t16
            refine WL.nil ?_
            refine WC.seq ?_
            refine WC.seq ?_
            refine WC.region ?_
            refine WL.y (Yl.move rfl) rfl ?_ -- t69
            refine WL.y (Yl.eql rfl rfl) rfl ?_ -- t70
            refine WL.nil ?_
            refine WC.condT rfl (decide_eq_true g38) ?_
            refine WC.seq ?_
            refine WC.region ?_
            refine WL.y (Yl.move rfl) rfl ?_ -- t71
            refine WL.y (Yl.move rfl) rfl ?_ -- t72
            refine WL.y (Yl.move rfl) rfl ?_ -- t73
            refine WL.y (Yl.move rfl) rfl ?_ -- t74
            refine WL.y (Yl.assign rfl) rfl ?_ -- t8
            refine WL.y (Yl.assign rfl) rfl ?_ -- t9
            refine WL.y (Yl.assign rfl) rfl ?_ -- t10
            refine WL.y (Yl.assign rfl) rfl ?_ -- t11
            refine WL.nil ?_
            refine WC.ret ?_
            repeat (first | (with_reducible refine peelT ?_) | (with_reducible refine peelB ?_) | (with_reducible refine peelTX ?_) | (with_reducible refine peelBX ?_) | (with_reducible refine peelBN ?_) | (with_reducible refine peelBO rfl ?_))
            have e1 : wrX x y bs k = x := by unfold wrX; rw [if_neg hf, if_pos g38]
            have e2 : wrY x y bs k = R.take k ++ y.drop k := by unfold wrY; rw [if_neg hf, if_pos g38, eW, if_pos g38]
            have e3 : wrN x y bs k = 0 := by unfold wrN; rw [if_neg hf, hT]; rfl
            have e4 : wrE x y bs k = 8 := by unfold wrE; rw [if_neg hf, hT]; rfl
            rw [e1, e2, e3, e4]
            exact ret4 (.inr rfl) Try.results8 rfl rfl rfl rfl fun w' h => ⟨((a0, c0), (ao68, c68)), trivial, rfl, OK.sub (OK.readOnly (v := .slice ao68 (R.take k ++ y.drop k).length c68) h (by repeat (first | exact Take1.head | apply Take1.tail))) (by repeat (first | exact TakeL.nil | (apply TakeL.cons; · repeat (first | exact Take1.head | apply Take1.tail))))⟩
          · refine WC.skip ?_
            refine WC.region ?_
            refine WL.to (To.buildSlice (vs := []) un22 zs5 rfl rfl (by simp [Value.cells]) (by decide) (by decide)) rfl ?_ -- t62
            intro b62
            refine WL.view (fun w h => h.blkOwn (b := b62) (size := 1) (n := 0) (by repeat (first | exact Take1.head | apply Take1.tail)) (by unfold maxLen; omega) rfl) ?_
            refine WL.y (Yl.move rfl) rfl ?_ -- t63
            refine WL.y (Yl.move rfl) rfl ?_ -- t64
            refine WL.y (Yl.slice (l := 0) (h := k) un22 sz5 rfl rfl ⟨_, rfl⟩ (by omega) (by omega)) rfl ?_
            refine WL.to (To.append (xs := []) (news := ints .u8 (R.take k)) sl22 rfl rfl (F := _) (n := 0) (v := .slice (some ⟨b62, 0, none⟩) 0 0) (by repeat (first | exact Take1.head | apply Take1.tail)) (Reads.of (r := rdR (.slice aR R.length cR) 1 R.length (ints .u8 R)) (RdOf.sub RdOf.rd' (by omega) (by omega) (by simp [ints_take])) (by repeat (first | exact Take1.head | apply Take1.tail))) (ints_one _ _) (N := k) (by omega) (zs := ints .u8 (R.take k)) (List.nil_append _) (by unfold maxLen; omega) (by omega)) rfl ?_
            rintro ⟨⟨ao66, c66⟩, hc66⟩
            dsimp only at hc66 ⊢
            refine WL.y (Yl.move rfl) rfl ?_ -- t67
            have hd : y.drop k = [] := List.drop_of_length_le (by omega)
            refine WL.to (To.append sl22 rfl rfl (by repeat (first | exact Take1.head | apply Take1.tail)) (Reads.of (r := ownR (.slice (some ⟨b54, 0, none⟩) 0 0) 5 1 0 []) RdOf.own (by repeat (first | exact Take1.head | apply Take1.tail))) (fun u hu => nomatch hu) (show k + 0 = (R.take k ++ y.drop k).length by rw [hd, List.append_nil, List.length_take, Nat.min_eq_left hkR]; rfl) (show _ = ints .u8 (R.take k ++ y.drop k) by rw [hd, List.append_nil, List.append_nil]) (by rw [List.length_append, List.length_take, List.length_drop]; unfold maxLen; omega) (by rw [List.length_append, List.length_take, List.length_drop]; omega)) rfl ?_ -- t68
            rintro ⟨⟨ao68, c68⟩, hc68⟩
            dsimp only at hc68 ⊢
            refine WL.y (Yl.assign rfl) rfl ?_ -- t16
            refine WL.nil ?_
            refine WC.seq ?_
            refine WC.seq ?_
            refine WC.region ?_
            refine WL.y (Yl.move rfl) rfl ?_ -- t69
            refine WL.y (Yl.eql rfl rfl) rfl ?_ -- t70
            refine WL.nil ?_
            refine WC.condT rfl (decide_eq_true g38) ?_
            refine WC.seq ?_
            refine WC.region ?_
            refine WL.y (Yl.move rfl) rfl ?_ -- t71
            refine WL.y (Yl.move rfl) rfl ?_ -- t72
            refine WL.y (Yl.move rfl) rfl ?_ -- t73
            refine WL.y (Yl.move rfl) rfl ?_ -- t74
            refine WL.y (Yl.assign rfl) rfl ?_ -- t8
            refine WL.y (Yl.assign rfl) rfl ?_ -- t9
            refine WL.y (Yl.assign rfl) rfl ?_ -- t10
            refine WL.y (Yl.assign rfl) rfl ?_ -- t11
            refine WL.nil ?_
            refine WC.ret ?_
            repeat (first | (with_reducible refine peelT ?_) | (with_reducible refine peelB ?_) | (with_reducible refine peelTX ?_) | (with_reducible refine peelBX ?_) | (with_reducible refine peelBN ?_) | (with_reducible refine peelBO rfl ?_))
            have e1 : wrX x y bs k = x := by unfold wrX; rw [if_neg hf, if_pos g38]
            have e2 : wrY x y bs k = R.take k ++ y.drop k := by unfold wrY; rw [if_neg hf, if_pos g38, eW, if_pos g38]
            have e3 : wrN x y bs k = 0 := by unfold wrN; rw [if_neg hf, hT]; rfl
            have e4 : wrE x y bs k = 8 := by unfold wrE; rw [if_neg hf, hT]; rfl
            rw [e1, e2, e3, e4]
            exact ret4 (.inr rfl) Try.results8 rfl rfl rfl rfl fun w' h => ⟨((a0, c0), (ao68, c68)), trivial, rfl, OK.sub (OK.readOnly (v := .slice ao68 (R.take k ++ y.drop k).length c68) h (by repeat (first | exact Take1.head | apply Take1.tail))) (by repeat (first | exact TakeL.nil | (apply TakeL.cons; · repeat (first | exact Take1.head | apply Take1.tail))))⟩
        · refine WC.skip ?_
          refine WC.seq ?_
          refine WC.seq ?_
          refine WC.region ?_
          refine WL.y (Yl.move rfl) rfl ?_ -- t69
          refine WL.y (Yl.eql rfl rfl) rfl ?_ -- t70
          refine WL.nil ?_
          refine WC.condT rfl (decide_eq_true g38) ?_
          refine WC.seq ?_
          refine WC.region ?_
          refine WL.y (Yl.move rfl) rfl ?_ -- t71
          refine WL.y (Yl.move rfl) rfl ?_ -- t72
          refine WL.y (Yl.move rfl) rfl ?_ -- t73
          refine WL.y (Yl.move rfl) rfl ?_ -- t74
          refine WL.y (Yl.assign rfl) rfl ?_ -- t8
          refine WL.y (Yl.assign rfl) rfl ?_ -- t9
          refine WL.y (Yl.assign rfl) rfl ?_ -- t10
          refine WL.y (Yl.assign rfl) rfl ?_ -- t11
          refine WL.nil ?_
          refine WC.ret ?_
          repeat (first | (with_reducible refine peelT ?_) | (with_reducible refine peelB ?_) | (with_reducible refine peelTX ?_) | (with_reducible refine peelBX ?_) | (with_reducible refine peelBN ?_) | (with_reducible refine peelBO rfl ?_))
          have hT : wrT x y bs torn = false := by rw [eT, decide_eq_false (p := torn < (R.length : Int)) g53]; simp
          rw [hT, if_neg (by decide)] at eW
          have e1 : wrX x y bs torn = x := by unfold wrX; rw [if_neg hf, if_pos g38]
          have e2 : wrY x y bs torn = R := by unfold wrY; rw [if_neg hf, if_pos g38, eW]
          have e3 : wrN x y bs torn = nwN x y + 1 := by unfold wrN; rw [if_neg hf, hT]; rfl
          have e4 : wrE x y bs torn = 0 := by unfold wrE; rw [if_neg hf, hT]; rfl
          rw [e1, e2, e3, e4]
          exact ret4 (.inr rfl) Try.results8 rfl rfl rfl rfl fun w' h => ⟨((a0, c0), (aR, cR)), trivial, rfl, h.sub (by repeat (first | exact TakeL.nil | (apply TakeL.cons; · repeat (first | exact Take1.head | apply Take1.tail))))⟩
      · refine WL.off rfl rfl rfl rfl ?_ -- t49
        refine WL.off rfl rfl rfl rfl ?_ -- t50
        refine WL.off rfl rfl rfl rfl ?_ -- t51
        refine WL.off rfl rfl rfl rfl ?_ -- t52
        refine WL.y (Yl.pickF rfl rfl) rfl ?_ -- t53
        refine WL.nil ?_
        refine WC.condF rfl (by first | rfl | (simp; done) | (simp; omega)) ?_
        refine WC.skip ?_
        refine WC.seq ?_
        refine WC.seq ?_
        refine WC.region ?_
        refine WL.y (Yl.move rfl) rfl ?_ -- t69
        refine WL.y (Yl.eql rfl rfl) rfl ?_ -- t70
        refine WL.nil ?_
        refine WC.condT rfl (decide_eq_true g38) ?_
        refine WC.seq ?_
        refine WC.region ?_
        refine WL.y (Yl.move rfl) rfl ?_ -- t71
        refine WL.y (Yl.move rfl) rfl ?_ -- t72
        refine WL.y (Yl.move rfl) rfl ?_ -- t73
        refine WL.y (Yl.move rfl) rfl ?_ -- t74
        refine WL.y (Yl.assign rfl) rfl ?_ -- t8
        refine WL.y (Yl.assign rfl) rfl ?_ -- t9
        refine WL.y (Yl.assign rfl) rfl ?_ -- t10
        refine WL.y (Yl.assign rfl) rfl ?_ -- t11
        refine WL.nil ?_
        refine WC.ret ?_
        repeat (first | (with_reducible refine peelT ?_) | (with_reducible refine peelB ?_) | (with_reducible refine peelTX ?_) | (with_reducible refine peelBX ?_) | (with_reducible refine peelBN ?_) | (with_reducible refine peelBO rfl ?_))
        have hT : wrT x y bs torn = false := by rw [eT, decide_eq_false (p := 0 ≤ torn) (of_decide_eq_false g48)]; rfl
        rw [hT, if_neg (by decide)] at eW
        have e1 : wrX x y bs torn = x := by unfold wrX; rw [if_neg hf, if_pos g38]
        have e2 : wrY x y bs torn = R := by unfold wrY; rw [if_neg hf, if_pos g38, eW]
        have e3 : wrN x y bs torn = nwN x y + 1 := by unfold wrN; rw [if_neg hf, hT]; rfl
        have e4 : wrE x y bs torn = 0 := by unfold wrE; rw [if_neg hf, hT]; rfl
        rw [e1, e2, e3, e4]
        exact ret4 (.inr rfl) Try.results8 rfl rfl rfl rfl fun w' h => ⟨((a0, c0), (aR, cR)), trivial, rfl, h.sub (by repeat (first | exact TakeL.nil | (apply TakeL.cons; · repeat (first | exact Take1.head | apply Take1.tail))))⟩
    · refine WC.skip ?_
      refine WC.seq ?_
      refine WC.region ?_
      refine WL.y (Yl.move rfl) rfl ?_ -- t40
      refine WL.y (Yl.add rfl rfl (u64_in _ (by omega))) rfl ?_
      refine WL.y (Yl.move rfl) rfl ?_ -- t42
      refine WL.callC (xs := [.tmp 41, .tmp 42]) (cap := []) rfl rfl en20 (by repeat (first | exact TakeL.nil | (apply TakeL.cons; · repeat (first | exact Take1.head | apply Take1.tail)))) (fun w hw => rrecord_any (nwN x y + 1) bs (.slice ab bs.length cb) hB (by omega) (by omega) w (hw.srcS (A := []) hb) hw.left.here) rfl ?_ -- t43 hailer/hailerref34.Record
      rintro ⟨aR, cR⟩ hcR
      dsimp only at hcR ⊢
      obtain ⟨R, hR⟩ : ∃ R, recF (nwN x y + 1) bs = R := ⟨_, rfl⟩
      rw [hR] at hrl eT eW hcR ⊢
      refine WL.view (fun w h => h.readOnly (v := .slice aR R.length cR) (by repeat (first | exact Take1.head | apply Take1.tail))) ?_
      refine WL.y (Yl.assign rfl) rfl ?_ -- t16
      refine WL.nil ?_
      refine WC.seq ?_
      refine WC.region ?_
      refine WL.y (Yl.assign rfl) rfl ?_ -- t17
      refine WL.nil ?_
      refine WC.seq ?_
      refine WC.region ?_
      refine WL.y (Yl.move rfl) rfl ?_ -- t44
      refine WL.y (Yl.add rfl rfl (u64_in _ (by omega))) rfl ?_
      refine WL.y (Yl.assign rfl) rfl ?_ -- t18
      refine WL.nil ?_
      refine WC.seq ?_
      refine WC.seq ?_
      refine WC.region ?_
      refine WL.y (Yl.move rfl) rfl ?_ -- t46
      refine WL.y (Yl.geq rfl rfl) rfl ?_ -- t47
      refine WL.y (Yl.move rfl) rfl ?_ -- t48
      refine WL.both (t := 48) rfl (fun g48 => ?_) (fun g48 => ?_)
      · refine WL.on rfl rfl ?_
        refine WL.y (Yl.move rfl) rfl ?_ -- t49
        refine WL.on rfl rfl ?_
        refine WL.y (Yl.move rfl) rfl ?_ -- t50
        refine WL.on rfl rfl ?_
        refine WL.y (Yl.len un22 rfl) rfl ?_ -- t51
        refine WL.on rfl rfl ?_
        refine WL.y (Yl.lss rfl rfl) rfl ?_ -- t52
        refine WL.y (Yl.pickT rfl rfl) rfl ?_ -- t53
        refine WL.nil ?_
        refine WC.condD rfl (fun g53 => ?_) (fun g53 => ?_)
        · refine WC.seq ?_
          have hT : wrT x y bs torn = true := by rw [eT, decide_eq_true (p := 0 ≤ torn) (of_decide_eq_true g48), decide_eq_true (p := torn < (R.length : Int)) g53]; rfl
          have ht0 : 0 ≤ torn := of_decide_eq_true g48
          obtain ⟨k, rfl⟩ : ∃ k : Nat, torn = (k : Int) := ⟨torn.toNat, by omega⟩
          have hkR : k ≤ R.length := by omega
          rw [hT, if_pos rfl, Int.toNat_natCast] at eW
          refine WC.region ?_
          refine WL.y (Yl.assign rfl) rfl ?_ -- t17
          refine WL.nil ?_
          refine WC.seq ?_
          refine WC.region ?_
          refine WL.y (Yl.assign rfl) rfl ?_ -- t18
          refine WL.nil ?_
          refine WC.seq ?_
          refine WC.region ?_
          refine WL.to (To.buildSlice (vs := []) un22 zs5 rfl rfl (by simp [Value.cells]) (by decide) (by decide)) rfl ?_ -- t54
          intro b54
          refine WL.view (fun w h => h.blkOwn (b := b54) (size := 1) (n := 0) (by repeat (first | exact Take1.head | apply Take1.tail)) (by unfold maxLen; omega) rfl) ?_
          refine WL.y (Yl.assign rfl) rfl ?_ -- t19
          refine WL.nil ?_
          refine WC.seq ?_
          refine WC.seq ?_
          refine WC.region ?_
          refine WL.y (Yl.move rfl) rfl ?_ -- t55
          refine WL.y (Yl.move rfl) rfl ?_ -- t56
          refine WL.y (Yl.len un22 rfl) rfl ?_ -- t57
          refine WL.y (Yl.lss rfl rfl) rfl ?_ -- t58
          refine WL.nil ?_
          refine WC.condD rfl (fun g58 => ?_) (fun g58 => ?_)
          · refine WC.region ?_
            refine WL.y (Yl.move rfl) rfl ?_ -- t59
            refine WL.y (Yl.move rfl) rfl ?_ -- t60
            refine WL.y (Yl.slice (l := k) (h := x.length) un22 sz5 rfl ⟨_, rfl⟩ rfl (by omega) (by omega)) rfl ?_
            refine WL.y (Yl.assign rfl) rfl ?_ -- t19
            refine WL.nil ?_
            refine WC.region ?_
            refine WL.to (To.buildSlice (vs := []) un22 zs5 rfl rfl (by simp [Value.cells]) (by decide) (by decide)) rfl ?_ -- t62
            intro b62
            refine WL.view (fun w h => h.blkOwn (b := b62) (size := 1) (n := 0) (by repeat (first | exact Take1.head | apply Take1.tail)) (by unfold maxLen; omega) rfl) ?_
            refine WL.y (Yl.move rfl) rfl ?_ -- t63
            refine WL.y (Yl.move rfl) rfl ?_ -- t64
            refine WL.y (Yl.slice (l := 0) (h := k) un22 sz5 rfl rfl ⟨_, rfl⟩ (by omega) (by omega)) rfl ?_
            refine WL.to (To.append (xs := []) (news := ints .u8 (R.take k)) sl22 rfl rfl (F := _) (n := 0) (v := .slice (some ⟨b62, 0, none⟩) 0 0) (by repeat (first | exact Take1.head | apply Take1.tail)) (Reads.of (r := rdR (.slice aR R.length cR) 1 R.length (ints .u8 R)) (RdOf.sub RdOf.rd' (by omega) (by omega) (by simp [ints_take])) (by repeat (first | exact Take1.head | apply Take1.tail))) (ints_one _ _) (N := k) (by omega) (zs := ints .u8 (R.take k)) (List.nil_append _) (by unfold maxLen; omega) (by omega)) rfl ?_
            rintro ⟨⟨ao66, c66⟩, hc66⟩
            dsimp only at hc66 ⊢
            refine WL.y (Yl.move rfl) rfl ?_ -- t67
            refine WL.to (To.append sl22 rfl rfl (by repeat (first | exact Take1.head | apply Take1.tail)) (Reads.of (r := rdR (.slice a0 x.length c0) 1 x.length (ints .u8 x)) (RdOf.cut RdOf.rd' k x.length (zs := x.drop k) (by omega) (by omega) (by rw [List.take_of_length_le (by simp)])) (by repeat (first | exact Take1.head | apply Take1.tail))) (ints_one _ _) (show k + (x.drop k).length = (R.take k ++ x.drop k).length by rw [List.length_append, List.length_take, Nat.min_eq_left hkR]) (show _ = ints .u8 (R.take k ++ x.drop k) by rw [ints_append]) (by rw [List.length_append, List.length_take, List.length_drop]; unfold maxLen; omega) (by rw [List.length_append, List.length_take, List.length_drop]; omega)) rfl ?_ -- t68
            rintro ⟨⟨ao68, c68⟩, hc68⟩
            dsimp only at hc68 ⊢
            refine WL.y (Yl.assign rfl) rfl ?_ -- t16
            refine WL.nil ?_
            refine WC.seq ?_
            refine WC.seq ?_
            refine WC.region ?_
            refine WL.y (Yl.move rfl) rfl ?_ -- t69
            refine WL.y (Yl.eql rfl rfl) rfl ?_ -- t70
            refine WL.nil ?_
            refine WC.condF rfl (decide_eq_false g38) ?_
            refine WC.skip ?_
            refine WC.seq ?_
            refine WC.region ?_
            refine WL.y (Yl.move rfl) rfl ?_ -- t75
            refine WL.y (Yl.move rfl) rfl ?_ -- t76
            refine WL.y (Yl.move rfl) rfl ?_ -- t77
            refine WL.y (Yl.move rfl) rfl ?_ -- t78
            refine WL.y (Yl.assign rfl) rfl ?_ -- t8
            refine WL.y (Yl.assign rfl) rfl ?_ -- t9
            refine WL.y (Yl.assign rfl) rfl ?_ -- t10
            refine WL.y (Yl.assign rfl) rfl ?_ -- t11
            refine WL.nil ?_
            refine WC.ret ?_
            repeat (first | (with_reducible refine peelT ?_) | (with_reducible refine peelB ?_) | (with_reducible refine peelTX ?_) | (with_reducible refine peelBX ?_) | (with_reducible refine peelBN ?_) | (with_reducible refine peelBO rfl ?_))
            have e1 : wrX x y bs k = R.take k ++ x.drop k := by unfold wrX; rw [if_neg hf, if_neg g38, eW, if_neg g38]
            have e2 : wrY x y bs k = y := by unfold wrY; rw [if_neg hf, if_neg g38]
            have e3 : wrN x y bs k = 0 := by unfold wrN; rw [if_neg hf, hT]; rfl
            have e4 : wrE x y bs k = 8 := by unfold wrE; rw [if_neg hf, hT]; rfl
            rw [e1, e2, e3, e4]
            exact ret4 (.inr rfl) Try.results8 rfl rfl rfl rfl fun w' h => ⟨((ao68, c68), (a1, c1)), trivial, rfl, OK.sub (OK.readOnly (v := .slice ao68 (R.take k ++ x.drop k).length c68) h (by repeat (first | exact Take1.head | apply Take1.tail))) (by repeat (first | exact TakeL.nil | (apply TakeL.cons; · repeat (first | exact Take1.head | apply Take1.tail))))⟩
          · refine WC.skip ?_
            refine WC.region ?_
            refine WL.to (To.buildSlice (vs := []) un22 zs5 rfl rfl (by simp [Value.cells]) (by decide) (by decide)) rfl ?_ -- t62
            intro b62
            refine WL.view (fun w h => h.blkOwn (b := b62) (size := 1) (n := 0) (by repeat (first | exact Take1.head | apply Take1.tail)) (by unfold maxLen; omega) rfl) ?_
            refine WL.y (Yl.move rfl) rfl ?_ -- t63
            refine WL.y (Yl.move rfl) rfl ?_ -- t64
            refine WL.y (Yl.slice (l := 0) (h := k) un22 sz5 rfl rfl ⟨_, rfl⟩ (by omega) (by omega)) rfl ?_
            refine WL.to (To.append (xs := []) (news := ints .u8 (R.take k)) sl22 rfl rfl (F := _) (n := 0) (v := .slice (some ⟨b62, 0, none⟩) 0 0) (by repeat (first | exact Take1.head | apply Take1.tail)) (Reads.of (r := rdR (.slice aR R.length cR) 1 R.length (ints .u8 R)) (RdOf.sub RdOf.rd' (by omega) (by omega) (by simp [ints_take])) (by repeat (first | exact Take1.head | apply Take1.tail))) (ints_one _ _) (N := k) (by omega) (zs := ints .u8 (R.take k)) (List.nil_append _) (by unfold maxLen; omega) (by omega)) rfl ?_
            rintro ⟨⟨ao66, c66⟩, hc66⟩
            dsimp only at hc66 ⊢
            refine WL.y (Yl.move rfl) rfl ?_ -- t67
            have hd : x.drop k = [] := List.drop_of_length_le (by omega)
            refine WL.to (To.append sl22 rfl rfl (by repeat (first | exact Take1.head | apply Take1.tail)) (Reads.of (r := ownR (.slice (some ⟨b54, 0, none⟩) 0 0) 5 1 0 []) RdOf.own (by repeat (first | exact Take1.head | apply Take1.tail))) (fun u hu => nomatch hu) (show k + 0 = (R.take k ++ x.drop k).length by rw [hd, List.append_nil, List.length_take, Nat.min_eq_left hkR]; rfl) (show _ = ints .u8 (R.take k ++ x.drop k) by rw [hd, List.append_nil, List.append_nil]) (by rw [List.length_append, List.length_take, List.length_drop]; unfold maxLen; omega) (by rw [List.length_append, List.length_take, List.length_drop]; omega)) rfl ?_ -- t68
            rintro ⟨⟨ao68, c68⟩, hc68⟩
            dsimp only at hc68 ⊢
            refine WL.y (Yl.assign rfl) rfl ?_ -- t16
            refine WL.nil ?_
            refine WC.seq ?_
            refine WC.seq ?_
            refine WC.region ?_
            refine WL.y (Yl.move rfl) rfl ?_ -- t69
            refine WL.y (Yl.eql rfl rfl) rfl ?_ -- t70
            refine WL.nil ?_
            refine WC.condF rfl (decide_eq_false g38) ?_
            refine WC.skip ?_
            refine WC.seq ?_
            refine WC.region ?_
            refine WL.y (Yl.move rfl) rfl ?_ -- t75
            refine WL.y (Yl.move rfl) rfl ?_ -- t76
            refine WL.y (Yl.move rfl) rfl ?_ -- t77
            refine WL.y (Yl.move rfl) rfl ?_ -- t78
            refine WL.y (Yl.assign rfl) rfl ?_ -- t8
            refine WL.y (Yl.assign rfl) rfl ?_ -- t9
            refine WL.y (Yl.assign rfl) rfl ?_ -- t10
            refine WL.y (Yl.assign rfl) rfl ?_ -- t11
            refine WL.nil ?_
            refine WC.ret ?_
            repeat (first | (with_reducible refine peelT ?_) | (with_reducible refine peelB ?_) | (with_reducible refine peelTX ?_) | (with_reducible refine peelBX ?_) | (with_reducible refine peelBN ?_) | (with_reducible refine peelBO rfl ?_))
            have e1 : wrX x y bs k = R.take k ++ x.drop k := by unfold wrX; rw [if_neg hf, if_neg g38, eW, if_neg g38]
            have e2 : wrY x y bs k = y := by unfold wrY; rw [if_neg hf, if_neg g38]
            have e3 : wrN x y bs k = 0 := by unfold wrN; rw [if_neg hf, hT]; rfl
            have e4 : wrE x y bs k = 8 := by unfold wrE; rw [if_neg hf, hT]; rfl
            rw [e1, e2, e3, e4]
            exact ret4 (.inr rfl) Try.results8 rfl rfl rfl rfl fun w' h => ⟨((ao68, c68), (a1, c1)), trivial, rfl, OK.sub (OK.readOnly (v := .slice ao68 (R.take k ++ x.drop k).length c68) h (by repeat (first | exact Take1.head | apply Take1.tail))) (by repeat (first | exact TakeL.nil | (apply TakeL.cons; · repeat (first | exact Take1.head | apply Take1.tail))))⟩
        · refine WC.skip ?_
          refine WC.seq ?_
          refine WC.seq ?_
          refine WC.region ?_
          refine WL.y (Yl.move rfl) rfl ?_ -- t69
          refine WL.y (Yl.eql rfl rfl) rfl ?_ -- t70
          refine WL.nil ?_
          refine WC.condF rfl (decide_eq_false g38) ?_
          refine WC.skip ?_
          refine WC.seq ?_
          refine WC.region ?_
          refine WL.y (Yl.move rfl) rfl ?_ -- t75
          refine WL.y (Yl.move rfl) rfl ?_ -- t76
          refine WL.y (Yl.move rfl) rfl ?_ -- t77
          refine WL.y (Yl.move rfl) rfl ?_ -- t78
          refine WL.y (Yl.assign rfl) rfl ?_ -- t8
          refine WL.y (Yl.assign rfl) rfl ?_ -- t9
          refine WL.y (Yl.assign rfl) rfl ?_ -- t10
          refine WL.y (Yl.assign rfl) rfl ?_ -- t11
          refine WL.nil ?_
          refine WC.ret ?_
          repeat (first | (with_reducible refine peelT ?_) | (with_reducible refine peelB ?_) | (with_reducible refine peelTX ?_) | (with_reducible refine peelBX ?_) | (with_reducible refine peelBN ?_) | (with_reducible refine peelBO rfl ?_))
          have hT : wrT x y bs torn = false := by rw [eT, decide_eq_false (p := torn < (R.length : Int)) g53]; simp
          rw [hT, if_neg (by decide)] at eW
          have e1 : wrX x y bs torn = R := by unfold wrX; rw [if_neg hf, if_neg g38, eW]
          have e2 : wrY x y bs torn = y := by unfold wrY; rw [if_neg hf, if_neg g38]
          have e3 : wrN x y bs torn = nwN x y + 1 := by unfold wrN; rw [if_neg hf, hT]; rfl
          have e4 : wrE x y bs torn = 0 := by unfold wrE; rw [if_neg hf, hT]; rfl
          rw [e1, e2, e3, e4]
          exact ret4 (.inr rfl) Try.results8 rfl rfl rfl rfl fun w' h => ⟨((aR, cR), (a1, c1)), trivial, rfl, h.sub (by repeat (first | exact TakeL.nil | (apply TakeL.cons; · repeat (first | exact Take1.head | apply Take1.tail))))⟩
      · refine WL.off rfl rfl rfl rfl ?_ -- t49
        refine WL.off rfl rfl rfl rfl ?_ -- t50
        refine WL.off rfl rfl rfl rfl ?_ -- t51
        refine WL.off rfl rfl rfl rfl ?_ -- t52
        refine WL.y (Yl.pickF rfl rfl) rfl ?_ -- t53
        refine WL.nil ?_
        refine WC.condF rfl (by first | rfl | (simp; done) | (simp; omega)) ?_
        refine WC.skip ?_
        refine WC.seq ?_
        refine WC.seq ?_
        refine WC.region ?_
        refine WL.y (Yl.move rfl) rfl ?_ -- t69
        refine WL.y (Yl.eql rfl rfl) rfl ?_ -- t70
        refine WL.nil ?_
        refine WC.condF rfl (decide_eq_false g38) ?_
        refine WC.skip ?_
        refine WC.seq ?_
        refine WC.region ?_
        refine WL.y (Yl.move rfl) rfl ?_ -- t75
        refine WL.y (Yl.move rfl) rfl ?_ -- t76
        refine WL.y (Yl.move rfl) rfl ?_ -- t77
        refine WL.y (Yl.move rfl) rfl ?_ -- t78
        refine WL.y (Yl.assign rfl) rfl ?_ -- t8
        refine WL.y (Yl.assign rfl) rfl ?_ -- t9
        refine WL.y (Yl.assign rfl) rfl ?_ -- t10
        refine WL.y (Yl.assign rfl) rfl ?_ -- t11
        refine WL.nil ?_
        refine WC.ret ?_
        repeat (first | (with_reducible refine peelT ?_) | (with_reducible refine peelB ?_) | (with_reducible refine peelTX ?_) | (with_reducible refine peelBX ?_) | (with_reducible refine peelBN ?_) | (with_reducible refine peelBO rfl ?_))
        have hT : wrT x y bs torn = false := by rw [eT, decide_eq_false (p := 0 ≤ torn) (of_decide_eq_false g48)]; rfl
        rw [hT, if_neg (by decide)] at eW
        have e1 : wrX x y bs torn = R := by unfold wrX; rw [if_neg hf, if_neg g38, eW]
        have e2 : wrY x y bs torn = y := by unfold wrY; rw [if_neg hf, if_neg g38]
        have e3 : wrN x y bs torn = nwN x y + 1 := by unfold wrN; rw [if_neg hf, hT]; rfl
        have e4 : wrE x y bs torn = 0 := by unfold wrE; rw [if_neg hf, hT]; rfl
        rw [e1, e2, e3, e4]
        exact ret4 (.inr rfl) Try.results8 rfl rfl rfl rfl fun w' h => ⟨((aR, cR), (a1, c1)), trivial, rfl, h.sub (by repeat (first | exact TakeL.nil | (apply TakeL.cons; · repeat (first | exact Take1.head | apply Take1.tail))))⟩
end Go.Proofs.Ytjlgmaappebppaa
