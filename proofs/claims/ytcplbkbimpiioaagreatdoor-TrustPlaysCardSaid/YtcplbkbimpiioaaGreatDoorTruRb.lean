/- The reference's keys, order, sets: the walks. -/
import Derived.Test.YtcplbkbimpiioaaGreatDoorTruR
import Derived.Test.YtcplbkbimpiioaaGreatDoorShaV
namespace Go.Proofs.YtcplbkbimpiioaaGreatDoor
open Go Go.RowKit
theorem rkey_any (k : Ky) (w : World) (hw : OK w (fpL []) [] w) :
    Fn Tryz.prog 68 [kyV k] [] w (fun _ : Option Addr × Nat => True) (fun y => .slice y.1 32 y.2) (fun y => [ownR (.slice y.1 32 y.2) 5 1 32 (ints .u8 k.b)]) := by
  have hl := k.len
  unfold kyV
  refine enterF Tryz.func68 rfl Tryz.ntmps68 rfl hw ?_
  refine WC.seq ?_
  refine WC.region ?_
  refine WL.to (To.box (cs := k.cells) rfl rfl) rfl ?_
  intro b1
  refine WL.y (Yl.assign rfl) rfl ?_
  refine WL.nil ?_
  refine WC.seq ?_
  refine WC.region ?_
  refine WL.y (Yl.assign rfl) rfl ?_
  refine WL.nil ?_
  refine WC.seq ?_
  refine WC.seq ?_
  refine WC.region ?_
  refine WL.y (Yl.assign rfl) rfl ?_
  refine WL.nil ?_
  refine WC.block ?_
  refine WC.view (fun w h => h.addNil 5 1) ?_
  refine WC.loop (α := Nat × (Option Addr × Nat)) (fun p => [(1, .pointer (some ⟨b1, 0, none⟩)), (3, .slice p.2.1 p.1 p.2.2), (4, .int .i64 (p.1 : Int))]) (fun p => [ownR (.slice p.2.1 p.1 p.2.2) 5 1 p.1 (ints .u8 (k.b.take p.1)), blkR b1 32 k.cells]) (fun p => p.1 ≤ 32) (fun p => 32 - p.1) (0, none, 0) (Nat.zero_le _) ⟨(by repeat' constructor), _, (by repeat' constructor)⟩ ?_
  rintro ⟨j, ao, c⟩ hj
  dsimp only at hj ⊢
  refine WC.seq ?_
  refine WC.seq ?_
  refine WC.region ?_
  refine WL.y (Yl.move rfl) rfl ?_
  refine WL.y (Yl.lss rfl rfl) rfl ?_
  refine WL.nil ?_
  refine WC.condD rfl (fun g6 => ?_) (fun g6 => ?_)
  · refine WC.skip ?_
    refine WC.seq ?_
    refine WC.block ?_
    refine WC.region ?_
    refine WL.y (Yl.move rfl) rfl ?_
    refine WL.y (Yl.move rfl) rfl ?_
    refine WL.y (Yl.indexA un32 sz5 rfl rfl rfl (by omega)) rfl ?_
    refine WL.y (Yl.load on5 rfl (by repeat constructor) (show _ = some (.int .u8 (k.b.getD j 0)) by rw [show 0 + j * 1 = j by omega]; exact ints_get .u8 k.b j (by omega))) rfl ?_
    refine WL.to (To.buildSlice (vs := [.int .u8 (k.b.getD j 0)]) un54 zs5 rfl rfl (by simp [Value.cells]) (by decide) (by decide)) rfl ?_
    intro b13
    refine WL.to (To.append sl54 rfl rfl (by repeat constructor) (Reads.of (RdOf.blk (cs := [.int .u8 (k.b.getD j 0)]) (cs' := ints .u8 [k.b.getD j 0]) (Nat.le_refl _) (by unfold maxLen; omega) (by simp) rfl) (by repeat constructor)) (ints_one _ _) rfl (by rw [ints_append, ← take_getD (show j < k.b.length by omega)]) (by unfold maxLen; omega) (by omega)) rfl ?_
    rintro ⟨⟨ao14, c14⟩, hc14⟩
    dsimp only at hc14 ⊢
    refine WL.y (Yl.assign rfl) rfl ?_
    refine WL.nil ?_
    refine WC.region ?_
    refine WL.y (Yl.move rfl) rfl ?_
    refine WL.y (Yl.add rfl rfl (IntWalk.i64_in _ (by omega))) rfl ?_
    refine WL.y (Yl.assign rfl) rfl ?_
    refine WL.nil ?_
    exact ⟨rfl, (j + 1, ao14, c14), by dsimp only; omega, by dsimp only; omega, (by repeat' constructor), _, (by repeat' constructor)⟩
  · refine WC.exit ?_
    refine WC.seq ?_
    refine WC.region ?_
    refine WL.y (Yl.move rfl) rfl ?_
    refine WL.y (Yl.assign rfl) rfl ?_
    refine WL.nil ?_
    refine WC.ret ?_
    repeat (with_reducible (first | refine peelT ?_ | refine peelB ?_ | refine peelTX ?_ | refine peelBX ?_ | refine peelBN ?_ | refine peelBO rfl ?_))
    have hj2 : j = 32 := by omega
    subst hj2
    exact ret1 (.inr rfl) Tryz.results68 rfl fun w' h => ⟨(ao, c), trivial, rfl, by rw [List.take_of_length_le (by omega)] at h; exact h.sub (by repeat' constructor)⟩
theorem of_any (bs : List Int) (v : Value) (hB : Bytes bs) (h8 : bs.length ≤ 8) (w : World) (hx : RdS w (fpL []) v 1 bs.length (ints .u8 bs)) (hw : OK w (fpL []) [] w) :
    Fn Tryz.prog 70 [v] [] w (fun _ : Unit => True) (fun _ => .int .u64 (val bs)) (fun _ => []) := by
  obtain ⟨al, cl, rfl, hcl, hml⟩ := hx.rd.form
  refine enterF Tryz.func70 rfl Tryz.ntmps70 rfl hw ?_
  refine WC.seq ?_
  refine WC.region ?_
  refine WL.y (Yl.assign rfl) rfl ?_
  refine WL.nil ?_
  refine WC.seq ?_
  refine WC.region ?_
  refine WL.y (Yl.assign rfl) rfl ?_
  refine WL.nil ?_
  refine WC.seq ?_
  refine WC.seq ?_
  refine WC.region ?_
  refine WL.y (Yl.assign rfl) rfl ?_
  refine WL.nil ?_
  refine WC.block ?_
  refine WC.loop (α := Nat) (fun j => [(0, .slice al bs.length cl), (3, .int .u64 (val (bs.take j))), (4, .int .i64 (j : Int))]) (fun _ => []) (fun j => j ≤ bs.length) (fun j => bs.length - j) 0 (Nat.zero_le _) ⟨(by repeat' constructor), _, (by repeat' constructor)⟩ ?_
  intro j hj
  refine WC.seq ?_
  refine WC.seq ?_
  refine WC.region ?_
  refine WL.y (Yl.move rfl) rfl ?_
  refine WL.y (Yl.move rfl) rfl ?_
  refine WL.y (Yl.len un54 rfl) rfl ?_
  refine WL.y (Yl.lss rfl rfl) rfl ?_
  refine WL.nil ?_
  refine WC.condD rfl (fun g8 => ?_) (fun g8 => ?_)
  · refine WC.skip ?_
    refine WC.seq ?_
    refine WC.block ?_
    refine WC.region ?_
    refine WL.y (Yl.move rfl) rfl ?_
    have hx2 := hB.getD (i := j) (by omega)
    have hv := val_range (hB.take j)
    have hp := pow256 (n := (bs.take j).length + 1) (by simp; omega)
    rw [Int.pow_succ] at hp
    refine WL.y (Yl.mul rfl rfl (u64_in _ (by omega))) rfl ?_
    refine WL.y (Yl.move rfl) rfl ?_
    refine WL.y (Yl.move rfl) rfl ?_
    refine WL.y (Yl.index un54 sz5 rfl rfl (Reads.s hx) rfl (by omega)) rfl ?_
    refine WL.y (Yl.loadE on5 rfl (Reads.s hx) (ints_get .u8 bs j (by omega))) rfl ?_
    refine WL.y (Yl.conv un5 un122 rfl (u64_in _ (by omega))) rfl ?_
    refine WL.y (Yl.add rfl rfl (u64_in _ (by omega))) rfl ?_
    refine WL.say (t := 18) (v' := .int .u64 (val (bs.take (j + 1)))) rfl (by rw [take_getD (show j < bs.length by omega), val_snoc, Int.mul_comm]) ?_
    refine WL.y (Yl.assign rfl) rfl ?_
    refine WL.nil ?_
    refine WC.region ?_
    refine WL.y (Yl.move rfl) rfl ?_
    refine WL.y (Yl.add rfl rfl (IntWalk.i64_in _ (by omega))) rfl ?_
    refine WL.y (Yl.assign rfl) rfl ?_
    refine WL.nil ?_
    exact ⟨rfl, j + 1, by omega, by omega, (by repeat' constructor), _, (by repeat' constructor)⟩
  · refine WC.exit ?_
    refine WC.seq ?_
    refine WC.region ?_
    refine WL.y (Yl.move rfl) rfl ?_
    refine WL.y (Yl.assign rfl) rfl ?_
    refine WL.nil ?_
    refine WC.ret ?_
    repeat (with_reducible (first | refine peelT ?_ | refine peelB ?_ | refine peelTX ?_ | refine peelBX ?_ | refine peelBN ?_ | refine peelBO rfl ?_))
    have hj2 : j = bs.length := by omega
    subst hj2
    exact ret1 (.inr rfl) Tryz.results70 rfl fun w' h => ⟨(), trivial, by rw [List.take_length], h.sub (by repeat' constructor)⟩
theorem Yl.sLss {c : Cx} {env : Env} {ds : List Deferred} {H : List Res} {dst : Option Tmp} {ty : TypeId} {pos : String} {af : Array Edge} {g : Option (Nat × Bool)} {t t2 : TypeId} {x y : Operand} {xs ys : List Int} (h1 : Bytes xs) (h2 : Bytes ys) (hx : ev env x = some (.string (strOfNums xs))) (hy : ev env y = some (.string (strOfNums ys))) : Yl c env ds H ⟨dst, .binOp .lss t x y t2, ty, pos, af, g⟩ (.bool (decide (lexF xs ys < 0))) := fun a w ha _ => by
  rw [← bytesLess_lex h1 h2]
  simp [execOp, ha.ev hx, ha.ev hy, eqGuard, binOp, Op.stringOp, Go.Lib.strOfNums_toList]
theorem rless_any (p q : Ky) (w : World) (hw : OK w (fpL []) [] w) : Fn Tryz.prog 90 [kyV p, kyV q] [] w (fun _ : Unit => True) (fun _ => .bool (ltK p q)) (fun _ => []) := by
  have hpl := p.len
  have hql := q.len
  unfold kyV
  refine enterF Tryz.func90 rfl Tryz.ntmps90 rfl hw ?_
  refine WC.seq ?_
  refine WC.region ?_
  refine WL.to (To.box (cs := p.cells) rfl rfl) rfl ?_
  intro b2
  refine WL.to (To.box (cs := q.cells) rfl rfl) rfl ?_
  intro b3
  refine WL.y (Yl.assign rfl) rfl ?_
  refine WL.nil ?_
  refine WC.seq ?_
  refine WC.drawAny (Hs := [blkR b2 32 p.cells, blkR b3 32 q.cells]) mixed (by kernel_rfl) ⟨_, (by repeat' constructor)⟩ ?_
  refine WD.tk 0 rfl (by kernel_rfl) rfl rfl (Yl.loadN (T := 32) (cs := p.cells) (cs' := p.cells) ag32 rfl (by repeat constructor) (Nat.ble_eq_true_of_le (by rw [p.clen]; omega)) (by rw [List.drop_zero, List.take_of_length_le (by rw [p.clen]; omega)])) rfl ?_
  refine WD.tk 3 rfl (by kernel_rfl) rfl rfl (Yl.loadN (T := 32) (cs := q.cells) (cs' := q.cells) ag32 rfl (by repeat constructor) (Nat.ble_eq_true_of_le (by rw [q.clen]; omega)) (by rw [List.drop_zero, List.take_of_length_le (by rw [q.clen]; omega)])) rfl ?_
  refine WD.one 1 (by kernel_rfl) ?_
  refine WO.callC (xs := [.tmp 5]) (cap := []) rfl .no rfl rfl en68 (by repeat' constructor) (fun w hw => rkey_any p w hw.left.here) rfl (fun _ => ⟨_, (by repeat' constructor)⟩) ?_
  rintro ⟨a6, c6⟩ -
  refine WD.two 2 4 (by kernel_rfl) ?_ ?_
  · refine WO.y rfl rfl .no (Yl.toStr (xs := p.b) un54 un5 un9 rfl (by rw [p.len]; exact Reads.of (r := ownR (.slice a6 32 c6) 5 1 32 (ints .u8 p.b)) RdOf.own (by repeat constructor))) rfl ?_
    refine WD.one 4 (by kernel_rfl) ?_
    refine WO.callC (xs := [.tmp 8]) (cap := []) rfl .no rfl rfl en68 (by repeat' constructor) (fun w hw => rkey_any q w hw.left.here) rfl (fun _ => ⟨_, (by repeat' constructor)⟩) ?_
    rintro ⟨a9, c9⟩ -
    refine WD.one 5 (by kernel_rfl) ?_
    refine WO.y rfl rfl .no (Yl.toStr (xs := q.b) un54 un5 un9 rfl (by rw [q.len]; exact Reads.of (r := ownR (.slice a9 32 c9) 5 1 32 (ints .u8 q.b)) RdOf.own (by repeat constructor))) rfl ?_
    refine WD.tk 6 rfl (by kernel_rfl) rfl rfl (Yl.sLss p.by8 q.by8 rfl rfl) rfl ?_
    refine WD.tk 7 rfl (by kernel_rfl) rfl rfl (Yl.assign rfl) rfl ?_
    refine WD.done (by kernel_rfl) ?_
    refine WC.ret ?_
    repeat (with_reducible (first | refine peelT ?_ | refine peelB ?_ | refine peelTX ?_ | refine peelBX ?_ | refine peelBN ?_ | refine peelBO rfl ?_))
    exact ret1 (.inr rfl) Tryz.results90 rfl fun w' h => ⟨(), trivial, rfl, h.sub (by repeat' constructor)⟩
  · refine WO.callC (xs := [.tmp 8]) (cap := []) rfl .no rfl rfl en68 (by repeat' constructor) (fun w hw => rkey_any q w hw.left.here) rfl (fun _ => ⟨_, (by repeat' constructor)⟩) ?_
    rintro ⟨a9, c9⟩ -
    refine WD.two 2 5 (by kernel_rfl) ?_ ?_
    · refine WO.y rfl rfl .no (Yl.toStr (xs := p.b) un54 un5 un9 rfl (by rw [p.len]; exact Reads.of (r := ownR (.slice a6 32 c6) 5 1 32 (ints .u8 p.b)) RdOf.own (by repeat constructor))) rfl ?_
      refine WD.one 5 (by kernel_rfl) ?_
      refine WO.y rfl rfl .no (Yl.toStr (xs := q.b) un54 un5 un9 rfl (by rw [q.len]; exact Reads.of (r := ownR (.slice a9 32 c9) 5 1 32 (ints .u8 q.b)) RdOf.own (by repeat constructor))) rfl ?_
      refine WD.tk 6 rfl (by kernel_rfl) rfl rfl (Yl.sLss p.by8 q.by8 rfl rfl) rfl ?_
      refine WD.tk 7 rfl (by kernel_rfl) rfl rfl (Yl.assign rfl) rfl ?_
      refine WD.done (by kernel_rfl) ?_
      refine WC.ret ?_
      repeat (with_reducible (first | refine peelT ?_ | refine peelB ?_ | refine peelTX ?_ | refine peelBX ?_ | refine peelBN ?_ | refine peelBO rfl ?_))
      exact ret1 (.inr rfl) Tryz.results90 rfl fun w' h => ⟨(), trivial, rfl, h.sub (by repeat' constructor)⟩
    · refine WO.y rfl rfl .no (Yl.toStr (xs := q.b) un54 un5 un9 rfl (by rw [q.len]; exact Reads.of (r := ownR (.slice a9 32 c9) 5 1 32 (ints .u8 q.b)) RdOf.own (by repeat constructor))) rfl ?_
      refine WD.one 2 (by kernel_rfl) ?_
      refine WO.y rfl rfl .no (Yl.toStr (xs := p.b) un54 un5 un9 rfl (by rw [p.len]; exact Reads.of (r := ownR (.slice a6 32 c6) 5 1 32 (ints .u8 p.b)) RdOf.own (by repeat constructor))) rfl ?_
      refine WD.tk 6 rfl (by kernel_rfl) rfl rfl (Yl.sLss p.by8 q.by8 rfl rfl) rfl ?_
      refine WD.tk 7 rfl (by kernel_rfl) rfl rfl (Yl.assign rfl) rfl ?_
      refine WD.done (by kernel_rfl) ?_
      refine WC.ret ?_
      repeat (with_reducible (first | refine peelT ?_ | refine peelB ?_ | refine peelTX ?_ | refine peelBX ?_ | refine peelBN ?_ | refine peelBO rfl ?_))
      exact ret1 (.inr rfl) Tryz.results90 rfl fun w' h => ⟨(), trivial, rfl, h.sub (by repeat' constructor)⟩
theorem rnum_any (a b : List Int) (ha : Bytes a) (hb : Bytes b) (hl : a.length + b.length ≤ 1000000) (w : World) (hw : OK w (fpL []) [] w) :
    Fn Tryz.prog 32 [.string (strOfNums a), .string (strOfNums b)] [] w (fun _ : Unit => True) (fun _ => .string (strOfNums (numF a b))) (fun _ => []) := by
  refine enterF Tryz.func32 rfl Tryz.ntmps32 rfl hw ?_
  refine WC.seq ?_
  refine WC.region ?_
  refine WL.y (Yl.assign rfl) rfl ?_
  refine WL.nil ?_
  refine WC.seq ?_
  refine WC.seq ?_
  refine WC.region ?_
  refine WL.y (Yl.move rfl) rfl ?_
  refine WL.y (Yl.move rfl) rfl ?_
  refine WL.y (Yl.sLss hb ha rfl rfl) rfl ?_
  refine WL.nil ?_
  refine WC.condD rfl (fun g7 => ?_) (fun g7 => ?_)
  · refine WC.seq ?_
    refine WC.region ?_
    refine WL.y (Yl.move rfl) rfl ?_
    refine WL.y (Yl.move rfl) rfl ?_
    refine WL.y (Yl.sAdd (by omega) rfl rfl) rfl ?_
    refine WL.y (Yl.assign rfl) rfl ?_
    refine WL.nil ?_
    refine WC.ret ?_
    repeat (with_reducible (first | refine peelT ?_ | refine peelB ?_ | refine peelTX ?_ | refine peelBX ?_ | refine peelBN ?_ | refine peelBO rfl ?_))
    exact ret1 (.inr rfl) Tryz.results32 rfl fun w' h => ⟨(), trivial, by unfold numF; rw [if_pos g7], h.sub (by repeat' constructor)⟩
  · refine WC.skip ?_
    refine WC.seq ?_
    refine WC.region ?_
    refine WL.y (Yl.move rfl) rfl ?_
    refine WL.y (Yl.move rfl) rfl ?_
    refine WL.y (Yl.sAdd (by omega) rfl rfl) rfl ?_
    refine WL.y (Yl.assign rfl) rfl ?_
    refine WL.nil ?_
    refine WC.ret ?_
    repeat (with_reducible (first | refine peelT ?_ | refine peelB ?_ | refine peelTX ?_ | refine peelBX ?_ | refine peelBN ?_ | refine peelBO rfl ?_))
    exact ret1 (.inr rfl) Tryz.results32 rfl fun w' h => ⟨(), trivial, by unfold numF; rw [if_neg g7], h.sub (by repeat' constructor)⟩
/-! ### Sets -/
theorem asc_ins {S : List Ky} (hA : Asc S) {k : Ky} {n : Nat} (h1 : ∀ x ∈ S.take n, ltK x k = true) (h2 : ∀ x ∈ S.drop n, ltK k x = true) : Asc (S.take n ++ [k] ++ S.drop n) := by
  have hS := hA
  unfold Asc at hS ⊢
  rw [← List.take_append_drop n S, List.pairwise_append] at hS
  rw [List.append_assoc, List.pairwise_append]
  refine ⟨hS.1, ?_, ?_⟩
  · rw [List.singleton_append, List.pairwise_cons]
    exact ⟨h2, hS.2.1⟩
  · intro x hx y hy
    rcases List.mem_append.1 hy with hy | hy
    · rw [List.mem_singleton] at hy; subst hy; exact h1 x hx
    · exact hS.2.2 x hx y hy
theorem ins_mem {S : List Ky} {k : Ky} {n : Nat} (x : Ky) : x ∈ S.take n ++ [k] ++ S.drop n ↔ x ∈ S ∨ x = k := by
  conv => rhs; rw [← List.take_append_drop n S]
  simp only [List.mem_append, List.mem_singleton]
  constructor
  · rintro ((h | h) | h)
    · exact .inl (.inl h)
    · exact .inr h
    · exact .inl (.inr h)
  · rintro ((h | h) | h)
    · exact .inl (.inl h)
    · exact .inr h
    · exact .inl (.inr h)
theorem set_have {l : List Ky} {i : Nat} {k : Ky} (hk : l[i]? = some k) (h : k ∈ setK (l.take i)) : setK (l.take (i + 1)) = setK (l.take i) :=
  (setK_is (setK_asc _) fun x => by
    rw [setK_mem, take_mem_snocK hk]
    rw [setK_mem] at h
    constructor
    · exact fun hx => .inl hx
    · rintro (hx | rfl)
      · exact hx
      · exact h).symm
theorem set_ins {l : List Ky} {i n : Nat} {k : Ky} (hk : l[i]? = some k) (h1 : ∀ x ∈ (setK (l.take i)).take n, ltK x k = true) (h2 : ∀ x ∈ (setK (l.take i)).drop n, ltK k x = true) :
    (setK (l.take i)).take n ++ [k] ++ (setK (l.take i)).drop n = setK (l.take (i + 1)) :=
  setK_is (asc_ins (setK_asc _) h1 h2) fun x => by rw [ins_mem, setK_mem, take_mem_snocK hk]
theorem asc_from {S : List Ky} (hA : Asc S) {k y : Ky} {n : Nat} (hy : S[n]? = some y) (hl : ltK y k = false) (hne : ¬ y = k) : ∀ x ∈ S.drop n, ltK k x = true := by
  have hky : ltK k y = true := by
    cases e : ltK k y with
    | true => rfl
    | false => exact absurd (ltK_eq hl e) hne
  obtain ⟨hn, rfl⟩ := List.getElem?_eq_some_iff.1 hy
  have hd : Asc (S.drop n) := List.Pairwise.drop hA
  rw [List.drop_eq_getElem_cons hn] at hd ⊢
  intro x hx
  rcases List.mem_cons.1 hx with rfl | hx
  · exact hky
  · exact ltK_trans hky ((List.pairwise_cons.1 hd).1 x hx)
set_option maxHeartbeats 3200000 in
set_option maxRecDepth 100000 in
theorem rset_any (v : Value) (l : List Ky) (hl : l.length ≤ 1000) (w : World) (hx : RdS w (fpL []) v 32 l.length (vcs kyV l)) (hw : OK w (fpL []) [] w) :
    Fn Tryz.prog 67 [v] [] w (fun _ : Option Addr × Nat => True) (fun y => .slice y.1 (setK l).length y.2) (fun y => [rwK (.slice y.1 (setK l).length y.2) (setK l).length (setK l)]) := by
  obtain ⟨al, cl, rfl, hcl, hml⟩ := hx.rd.form
  refine enterF Tryz.func67 rfl Tryz.ntmps67 rfl hw ?_
  refine WC.seq ?_
  refine WC.region ?_
  refine WL.y (Yl.assign rfl) rfl ?_
  refine WL.nil ?_
  refine WC.seq ?_
  refine WC.region ?_
  refine WL.y (Yl.assign rfl) rfl ?_
  refine WL.nil ?_
  refine WC.seq ?_
  refine WC.seq ?_
  refine WC.region ?_
  refine WL.y (Yl.assign rfl) rfl ?_
  refine WL.nil ?_
  refine WC.block ?_
  have hs0 : setK (l.take 0) = [] := List.eq_nil_of_length_eq_zero (by have := setK_len (l.take 0); simpa using this)
  refine WC.view (fun w h => h.addNil 32 32) ?_
  refine WC.loop (α := Nat × (Option Addr × Nat)) (fun p => [(0, .slice al l.length cl), (3, .slice p.2.1 (setK (l.take p.1)).length p.2.2), (4, .int .i64 (p.1 : Int))]) (fun p => [rwK (.slice p.2.1 (setK (l.take p.1)).length p.2.2) (setK (l.take p.1)).length (setK (l.take p.1))]) (fun p => p.1 ≤ l.length) (fun p => l.length - p.1) (0, none, 0) (Nat.zero_le _) ⟨(by dsimp only; rw [hs0]; exact (by repeat' constructor)), _, (by dsimp only; rw [hs0]; exact (by repeat' constructor))⟩ ?_
  rintro ⟨i, a3, c3⟩ hi
  dsimp only at hi ⊢
  refine WC.seq ?_
  refine WC.seq ?_
  refine WC.region ?_
  refine WL.y (Yl.move rfl) rfl ?_
  refine WL.y (Yl.move rfl) rfl ?_
  refine WL.y (Yl.len un22 rfl) rfl ?_
  refine WL.y (Yl.lss rfl rfl) rfl ?_
  refine WL.nil ?_
  refine WC.condD rfl (fun g9 => ?_) (fun g9 => ?_)
  · refine WC.skip ?_
    refine WC.seq ?_
    refine WC.block ?_
    refine WC.seq ?_
    have hil : i < l.length := by omega
    obtain ⟨k, hk⟩ : ∃ k, l[i]? = some k := ⟨_, List.getElem?_eq_getElem hil⟩
    have hSl := setK_len (l.take i)
    rw [List.length_take] at hSl
    have hsh := set_have hk
    have hsi := fun n => set_ins (n := n) hk
    have hAs := setK_asc (l.take i)
    obtain ⟨S, hS⟩ : ∃ S, setK (l.take i) = S := ⟨_, rfl⟩
    rw [hS] at hSl hsh hsi hAs ⊢
    refine WC.region ?_
    refine WL.y (Yl.assign rfl) rfl ?_
    refine WL.nil ?_
    refine WC.midX (α := Nat) (fun n => [(0, .slice al l.length cl), (3, .slice a3 S.length c3), (4, .int .i64 (i : Int)), (5, .int .i64 (n : Int))]) (fun _ => [rwK (.slice a3 S.length c3) S.length S]) (fun n => n ≤ S.length ∧ (∀ x ∈ S.take n, ltK x k = true) ∧ ∀ y, S[n]? = some y → ltK y k = false) ?_ ?_
    · refine WC.block ?_
      refine WC.loop (α := Nat) (fun n => [(0, .slice al l.length cl), (3, .slice a3 S.length c3), (4, .int .i64 (i : Int)), (5, .int .i64 (n : Int))]) (fun _ => [rwK (.slice a3 S.length c3) S.length S]) (fun n => n ≤ S.length ∧ ∀ x ∈ S.take n, ltK x k = true) (fun n => S.length - n) 0 ⟨Nat.zero_le _, fun x hx => nomatch hx⟩ ⟨(by repeat' constructor), _, (by repeat' constructor)⟩ ?_
      rintro n ⟨hn, hnl⟩
      refine WC.seq ?_
      refine WC.seq ?_
      refine WC.drawAny (Hs := [rwK (.slice a3 S.length c3) S.length S]) mixed (by kernel_rfl) ⟨_, (by repeat' constructor)⟩ ?_
      refine WD.tk 0 rfl (by kernel_rfl) rfl rfl (Yl.move rfl) rfl ?_
      refine WD.tk 1 rfl (by kernel_rfl) rfl rfl (Yl.move rfl) rfl ?_
      refine WD.tk 2 rfl (by kernel_rfl) rfl rfl (Yl.len un22 rfl) rfl ?_
      refine WD.tk 3 rfl (by kernel_rfl) rfl rfl (Yl.lss rfl rfl) rfl ?_
      refine WD.tk 4 rfl (by kernel_rfl) rfl rfl (Yl.move rfl) rfl ?_
      refine WD.both (t := 16) rfl (fun g16 => ?_) (fun g16 => ?_)
      · have hnS : n < S.length := by have := of_decide_eq_true g16; omega
        obtain ⟨y, hy⟩ : ∃ y, S[n]? = some y := ⟨_, List.getElem?_eq_getElem hnS⟩
        refine WD.takeOn 5 rfl (by kernel_rfl) (by kernel_rfl) (by kernel_rfl) rfl rfl rfl rfl (Yl.move rfl) rfl ?_
        refine WD.takeOn 6 rfl (by kernel_rfl) (by kernel_rfl) (by kernel_rfl) rfl rfl rfl rfl (Yl.move rfl) rfl ?_
        refine WD.takeOn 7 rfl (by kernel_rfl) (by kernel_rfl) (by kernel_rfl) rfl rfl rfl rfl (Yl.index un22 sz32 rfl rfl (Reads.of (r := rwK (.slice a3 S.length c3) S.length S) RdOf.own (by repeat constructor)) rfl (by omega)) rfl ?_
        refine WD.takeOn 8 rfl (by kernel_rfl) (by kernel_rfl) (by kernel_rfl) rfl rfl rfl rfl (Yl.loadV (j := n) (u := y) vtK (fun _ _ => trivial) rfl (Reads.of (r := rwK (.slice a3 S.length c3) S.length S) RdOf.own (by repeat constructor)) rfl hy) rfl ?_
        refine WD.takeOn 9 rfl (by kernel_rfl) (by kernel_rfl) (by kernel_rfl) rfl rfl rfl rfl (Yl.move rfl) rfl ?_
        refine WD.takeOn 10 rfl (by kernel_rfl) (by kernel_rfl) (by kernel_rfl) rfl rfl rfl rfl (Yl.move rfl) rfl ?_
        refine WD.takeOn 11 rfl (by kernel_rfl) (by kernel_rfl) (by kernel_rfl) rfl rfl rfl rfl (Yl.index un22 sz32 rfl rfl (Reads.s hx) rfl (by omega)) rfl ?_
        refine WD.takeOn 12 rfl (by kernel_rfl) (by kernel_rfl) (by kernel_rfl) rfl rfl rfl rfl (Yl.loadV (j := i) (u := k) vtK (fun _ _ => trivial) rfl (Reads.s hx) rfl hk) rfl ?_
        refine WD.one 13 (by kernel_rfl) ?_
        refine WO.callC (xs := [.tmp 20, .tmp 24]) (cap := []) rfl (.on rfl rfl) rfl rfl en90 (by repeat' constructor) (fun w hw => rless_any y k w hw.left.here) rfl (fun _ => ⟨_, (by repeat' constructor)⟩) ?_
        rintro ⟨⟩ -
        refine WD.tk 14 rfl (by kernel_rfl) rfl rfl (Yl.pickT rfl rfl) rfl ?_
        refine WD.done (by kernel_rfl) ?_
        refine WC.cond rfl (fun g26 => ?_) (fun g26 => ?_)
        · refine WC.skip ?_
          refine WC.block ?_
          refine WC.region ?_
          refine WL.y (Yl.move rfl) rfl ?_
          refine WL.y (Yl.add rfl rfl (IntWalk.i64_in _ (by omega))) rfl ?_
          refine WL.y (Yl.assign rfl) rfl ?_
          refine WL.nil ?_
          have hyk : ltK y k = true := g26
          exact ⟨rfl, n + 1, ⟨by omega, fun x hx => by
            rw [take_snocK hy] at hx
            rcases List.mem_append.1 hx with hx | hx
            · exact hnl x hx
            · rw [List.mem_singleton] at hx; subst hx; exact hyk⟩, by omega, (by repeat' constructor), _, (by repeat' constructor)⟩
        · refine WC.exit ?_
          exact ⟨rfl, n, ⟨hn, hnl, fun y2 hy2 => by rw [hy] at hy2; cases hy2; exact g26⟩, (by repeat' constructor), _, (by repeat' constructor)⟩
      · refine WD.takeOff 5 rfl (by kernel_rfl) (by kernel_rfl) (by kernel_rfl) rfl rfl rfl rfl rfl rfl ?_
        refine WD.takeOff 6 rfl (by kernel_rfl) (by kernel_rfl) (by kernel_rfl) rfl rfl rfl rfl rfl rfl ?_
        refine WD.takeOff 7 rfl (by kernel_rfl) (by kernel_rfl) (by kernel_rfl) rfl rfl rfl rfl rfl rfl ?_
        refine WD.takeOff 8 rfl (by kernel_rfl) (by kernel_rfl) (by kernel_rfl) rfl rfl rfl rfl rfl rfl ?_
        refine WD.takeOff 9 rfl (by kernel_rfl) (by kernel_rfl) (by kernel_rfl) rfl rfl rfl rfl rfl rfl ?_
        refine WD.takeOff 10 rfl (by kernel_rfl) (by kernel_rfl) (by kernel_rfl) rfl rfl rfl rfl rfl rfl ?_
        refine WD.takeOff 11 rfl (by kernel_rfl) (by kernel_rfl) (by kernel_rfl) rfl rfl rfl rfl rfl rfl ?_
        refine WD.takeOff 12 rfl (by kernel_rfl) (by kernel_rfl) (by kernel_rfl) rfl rfl rfl rfl rfl rfl ?_
        refine WD.one 13 (by kernel_rfl) ?_
        refine WO.off rfl rfl rfl rfl rfl rfl rfl ?_
        refine WD.tk 14 rfl (by kernel_rfl) rfl rfl (Yl.pickF rfl rfl) rfl ?_
        refine WD.done (by kernel_rfl) ?_
        refine WC.condF rfl (by first | rfl | (simp; done) | (simp; omega)) ?_
        refine WC.exit ?_
        exact ⟨rfl, n, ⟨hn, hnl, fun y2 hy2 => absurd (List.getElem?_eq_some_iff.1 hy2).1 (by have := of_decide_eq_false g16; omega)⟩, (by repeat' constructor), _, (by repeat' constructor)⟩
    · rintro n ⟨hn, hnl, hnf⟩
      refine WC.seq ?_
      refine WC.midX (α := Bool) (fun q => [(0, .slice al l.length cl), (3, .slice a3 S.length c3), (4, .int .i64 (i : Int)), (5, .int .i64 (n : Int)), (43, .bool q)]) (fun _ => [rwK (.slice a3 S.length c3) S.length S]) (fun q => (q = true → k ∈ S) ∧ (q = false → ∀ x ∈ S.drop n, ltK k x = true)) ?_ ?_
      · refine WC.drawAny (Hs := [rwK (.slice a3 S.length c3) S.length S]) mixed (by kernel_rfl) ⟨_, (by repeat' constructor)⟩ ?_
        refine WD.tk 0 rfl (by kernel_rfl) rfl rfl (Yl.move rfl) rfl ?_
        refine WD.tk 1 rfl (by kernel_rfl) rfl rfl (Yl.move rfl) rfl ?_
        refine WD.tk 2 rfl (by kernel_rfl) rfl rfl (Yl.len un22 rfl) rfl ?_
        refine WD.tk 3 rfl (by kernel_rfl) rfl rfl (Yl.lss rfl rfl) rfl ?_
        refine WD.tk 4 rfl (by kernel_rfl) rfl rfl (Yl.move rfl) rfl ?_
        refine WD.both (t := 33) rfl (fun g33 => ?_) (fun g33 => ?_)
        · have hnS : n < S.length := by have := of_decide_eq_true g33; omega
          obtain ⟨y, hy⟩ : ∃ y, S[n]? = some y := ⟨_, List.getElem?_eq_getElem hnS⟩
          refine WD.takeOn 5 rfl (by kernel_rfl) (by kernel_rfl) (by kernel_rfl) rfl rfl rfl rfl (Yl.move rfl) rfl ?_
          refine WD.takeOn 6 rfl (by kernel_rfl) (by kernel_rfl) (by kernel_rfl) rfl rfl rfl rfl (Yl.move rfl) rfl ?_
          refine WD.takeOn 7 rfl (by kernel_rfl) (by kernel_rfl) (by kernel_rfl) rfl rfl rfl rfl (Yl.index un22 sz32 rfl rfl (Reads.of (r := rwK (.slice a3 S.length c3) S.length S) RdOf.own (by repeat constructor)) rfl (by omega)) rfl ?_
          refine WD.takeOn 8 rfl (by kernel_rfl) (by kernel_rfl) (by kernel_rfl) rfl rfl rfl rfl (Yl.loadV (j := n) (u := y) vtK (fun _ _ => trivial) rfl (Reads.of (r := rwK (.slice a3 S.length c3) S.length S) RdOf.own (by repeat constructor)) rfl hy) rfl ?_
          refine WD.takeOn 9 rfl (by kernel_rfl) (by kernel_rfl) (by kernel_rfl) rfl rfl rfl rfl (Yl.move rfl) rfl ?_
          refine WD.takeOn 10 rfl (by kernel_rfl) (by kernel_rfl) (by kernel_rfl) rfl rfl rfl rfl (Yl.move rfl) rfl ?_
          refine WD.takeOn 11 rfl (by kernel_rfl) (by kernel_rfl) (by kernel_rfl) rfl rfl rfl rfl (Yl.index un22 sz32 rfl rfl (Reads.s hx) rfl (by omega)) rfl ?_
          refine WD.takeOn 12 rfl (by kernel_rfl) (by kernel_rfl) (by kernel_rfl) rfl rfl rfl rfl (Yl.loadV (j := i) (u := k) vtK (fun _ _ => trivial) rfl (Reads.s hx) rfl hk) rfl ?_
          refine WD.takeOn 13 rfl (by kernel_rfl) (by kernel_rfl) (by kernel_rfl) rfl rfl rfl rfl (Yl.eqK (p := y) (q := k) rfl rfl rfl) rfl ?_
          refine WD.tk 14 rfl (by kernel_rfl) rfl rfl (Yl.pickT rfl rfl) rfl ?_
          refine WD.done (by kernel_rfl) ?_
          exact ⟨rfl, decide (y = k), ⟨fun h => of_decide_eq_true h ▸ List.mem_of_getElem? hy, fun h => asc_from hAs hy (hnf y hy) (of_decide_eq_false h)⟩, (by repeat' constructor), _, (by repeat' constructor)⟩
        · refine WD.takeOff 5 rfl (by kernel_rfl) (by kernel_rfl) (by kernel_rfl) rfl rfl rfl rfl rfl rfl ?_
          refine WD.takeOff 6 rfl (by kernel_rfl) (by kernel_rfl) (by kernel_rfl) rfl rfl rfl rfl rfl rfl ?_
          refine WD.takeOff 7 rfl (by kernel_rfl) (by kernel_rfl) (by kernel_rfl) rfl rfl rfl rfl rfl rfl ?_
          refine WD.takeOff 8 rfl (by kernel_rfl) (by kernel_rfl) (by kernel_rfl) rfl rfl rfl rfl rfl rfl ?_
          refine WD.takeOff 9 rfl (by kernel_rfl) (by kernel_rfl) (by kernel_rfl) rfl rfl rfl rfl rfl rfl ?_
          refine WD.takeOff 10 rfl (by kernel_rfl) (by kernel_rfl) (by kernel_rfl) rfl rfl rfl rfl rfl rfl ?_
          refine WD.takeOff 11 rfl (by kernel_rfl) (by kernel_rfl) (by kernel_rfl) rfl rfl rfl rfl rfl rfl ?_
          refine WD.takeOff 12 rfl (by kernel_rfl) (by kernel_rfl) (by kernel_rfl) rfl rfl rfl rfl rfl rfl ?_
          refine WD.takeOff 13 rfl (by kernel_rfl) (by kernel_rfl) (by kernel_rfl) rfl rfl rfl rfl rfl rfl ?_
          refine WD.tk 14 rfl (by kernel_rfl) rfl rfl (Yl.pickF rfl rfl) rfl ?_
          refine WD.done (by kernel_rfl) ?_
          exact ⟨rfl, false, ⟨fun h => (by cases h), fun _ => by
            rw [List.drop_of_length_le (by have := of_decide_eq_false g33; omega)]
            exact fun x hx => nomatch hx⟩, (by repeat' constructor), _, (by repeat' constructor)⟩
      · rintro q ⟨hq1, hq2⟩
        refine WC.cond rfl (fun g43 => ?_) (fun g43 => ?_)
        · refine WC.exit ?_
          refine WC.region ?_
          refine WL.y (Yl.move rfl) rfl ?_
          refine WL.y (Yl.add rfl rfl (IntWalk.i64_in _ (by omega))) rfl ?_
          refine WL.y (Yl.assign rfl) rfl ?_
          refine WL.nil ?_
          have e := hsh (hq1 g43)
          exact ⟨rfl, (i + 1, a3, c3), by dsimp only; omega, by dsimp only; omega, (by dsimp only; rw [e]; exact (by repeat' constructor)), _, (by dsimp only; rw [e]; exact (by repeat' constructor))⟩
        · refine WC.skip ?_
          have e := hsi n hnl (hq2 g43)
          have hel : n + 1 + (S.length - n) = (S.take n ++ [k] ++ S.drop n).length := by rw [List.length_append, List.length_append, List.length_take, List.length_drop, List.length_singleton]; omega
          refine WC.viewX (α := Unit) (φ := fun _ => S.length ≤ c3) (H' := fun _ => [rwK (.slice a3 S.length c3) S.length S]) (fun w h => ⟨(), Sown.le (h.get .head), h⟩) ?_
          rintro ⟨⟩ hcap
          refine WC.drawAny (Hs := [rwK (.slice a3 S.length c3) S.length S]) mixed (by kernel_rfl) ⟨_, (by repeat' constructor)⟩ ?_
          refine WD.tk 1 rfl (by kernel_rfl) rfl rfl (Yl.move rfl) rfl ?_
          refine WD.tk 2 rfl (by kernel_rfl) rfl rfl (Yl.move rfl) rfl ?_
          refine WD.tk 3 rfl (by kernel_rfl) rfl rfl (Yl.slice (l := 0) (h := n) un22 sz32 rfl rfl ⟨_, rfl⟩ (by omega) (by omega)) rfl ?_
          refine WD.tk 5 rfl (by kernel_rfl) rfl rfl (Yl.move rfl) rfl ?_
          refine WD.tk 6 rfl (by kernel_rfl) rfl rfl (Yl.move rfl) rfl ?_
          refine WD.tk 7 rfl (by kernel_rfl) rfl rfl (Yl.index un22 sz32 rfl rfl (Reads.s hx) rfl (by omega)) rfl ?_
          refine WD.tk 8 rfl (by kernel_rfl) rfl rfl (Yl.loadV (j := i) (u := k) vtK (fun _ _ => trivial) rfl (Reads.s hx) rfl hk) rfl ?_
          refine WD.tk 11 rfl (by kernel_rfl) rfl rfl (Yl.move rfl) rfl ?_
          refine WD.tk 12 rfl (by kernel_rfl) rfl rfl (Yl.move rfl) rfl ?_
          refine WD.tk 13 rfl (by kernel_rfl) rfl rfl (Yl.slice (l := n) (h := S.length) un22 sz32 rfl ⟨_, rfl⟩ rfl (by omega) (by omega)) rfl ?_
          refine WD.two 0 9 (by kernel_rfl) ?_ ?_
          · refine WO.to rfl rfl .no (To.buildSlice (vs := []) un22 zs32 rfl rfl (by simp [Value.cells]) (by decide) (by decide)) rfl (fun _ => ⟨_, (by repeat' constructor)⟩) ?_
            intro b44
            rw [show flat [] = [] from rfl]
            refine WD.view (fun w h => h.blkOwn (b := b44) (size := 32) (n := 0) (by repeat constructor) (by unfold maxLen; omega) rfl) ?_
            refine WD.two 4 9 (by kernel_rfl) ?_ ?_
            · refine WO.to rfl rfl .no (To.append sl22 rfl rfl (by repeat constructor) (Reads.of (RdOf.sub (r := rwK (.slice a3 S.length c3) S.length S) RdOf.own (Nat.zero_le _) hn (cs' := vcs kyV (S.take n)) (by rw [Nat.zero_mul, List.drop_zero, Nat.sub_zero, vtK.take n (fun _ _ => trivial)])) (by repeat constructor)) (vtK.ones _) (show 0 + (n - 0) = n by rw [Nat.sub_zero, Nat.zero_add]) (List.nil_append _) (by unfold maxLen; omega) (by omega)) rfl (fun _ => ⟨_, (by repeat' constructor)⟩) ?_
              rintro ⟨⟨ao48, c48⟩, hc48⟩
              dsimp only at hc48 ⊢
              refine WD.one 9 (by kernel_rfl) ?_
              refine WO.to rfl rfl .no (To.buildSlice (vs := [kyV k]) un22 zs32 rfl rfl (fun v hv => by rw [List.mem_singleton] at hv; subst hv; unfold kyV; simp [Value.cells, Ky.clen]) (by decide) (by decide)) rfl (fun _ => ⟨_, (by repeat' constructor)⟩) ?_
              intro b53
              refine WD.one 10 (by kernel_rfl) ?_
              refine WO.to rfl rfl .no (To.append sl22 rfl rfl (by repeat constructor) (Reads.of (RdOf.blk (size := 32) (n := 1) (cs := flat [kyV k]) (cs' := vcs kyV [k]) (Nat.le_refl _) (by unfold maxLen; omega) (by simp [flat, kyV, Value.cells, Ky.clen]) (by rw [List.drop_zero, List.take_of_length_le (by simp [flat, kyV, Value.cells, Ky.clen])]; rfl)) (by repeat constructor)) (vtK.ones _) rfl (show vcs kyV (S.take n) ++ vcs kyV [k] = vcs kyV (S.take n ++ [k]) by rw [vcs_app]) (by unfold maxLen; omega) (by omega)) rfl (fun _ => ⟨_, (by repeat' constructor)⟩) ?_
              rintro ⟨⟨ao54, c54⟩, hc54⟩
              dsimp only at hc54 ⊢
              refine WD.one 14 (by kernel_rfl) ?_
              refine WO.to rfl rfl .no (To.append sl22 rfl rfl (by repeat constructor) (Reads.of (RdOf.sub (r := rwK (.slice a3 S.length c3) S.length S) RdOf.own hn (Nat.le_refl _) (cs' := vcs kyV (S.drop n)) (by rw [vtK.drop n (fun _ _ => trivial), List.take_of_length_le (by rw [vtK.size (fun _ _ => trivial), List.length_drop]; exact Nat.le_refl _)])) (by repeat constructor)) (vtK.ones _) hel (show vcs kyV (S.take n ++ [k]) ++ vcs kyV (S.drop n) = vcs kyV (S.take n ++ [k] ++ S.drop n) by rw [← vcs_app]) (by unfold maxLen; omega) (by omega)) rfl (fun _ => ⟨_, (by repeat' constructor)⟩) ?_
              rintro ⟨⟨ao58, c58⟩, hc58⟩
              dsimp only at hc58 ⊢
              refine WD.tk 15 rfl (by kernel_rfl) rfl rfl (Yl.assign rfl) rfl ?_
              refine WD.done (by kernel_rfl) ?_
              refine WC.region ?_
              refine WL.y (Yl.move rfl) rfl ?_
              refine WL.y (Yl.add rfl rfl (IntWalk.i64_in _ (by omega))) rfl ?_
              refine WL.y (Yl.assign rfl) rfl ?_
              refine WL.nil ?_
              exact ⟨rfl, (i + 1, ao58, c58), by dsimp only; omega, by dsimp only; omega, (by dsimp only; rw [← e]; exact (by repeat' constructor)), _, (by dsimp only; rw [← e]; exact (by repeat' constructor))⟩
            · refine WO.to rfl rfl .no (To.buildSlice (vs := [kyV k]) un22 zs32 rfl rfl (fun v hv => by rw [List.mem_singleton] at hv; subst hv; unfold kyV; simp [Value.cells, Ky.clen]) (by decide) (by decide)) rfl (fun _ => ⟨_, (by repeat' constructor)⟩) ?_
              intro b53
              refine WD.one 4 (by kernel_rfl) ?_
              refine WO.to rfl rfl .no (To.append sl22 rfl rfl (by repeat constructor) (Reads.of (RdOf.sub (r := rwK (.slice a3 S.length c3) S.length S) RdOf.own (Nat.zero_le _) hn (cs' := vcs kyV (S.take n)) (by rw [Nat.zero_mul, List.drop_zero, Nat.sub_zero, vtK.take n (fun _ _ => trivial)])) (by repeat constructor)) (vtK.ones _) (show 0 + (n - 0) = n by rw [Nat.sub_zero, Nat.zero_add]) (List.nil_append _) (by unfold maxLen; omega) (by omega)) rfl (fun _ => ⟨_, (by repeat' constructor)⟩) ?_
              rintro ⟨⟨ao48, c48⟩, hc48⟩
              dsimp only at hc48 ⊢
              refine WD.one 10 (by kernel_rfl) ?_
              refine WO.to rfl rfl .no (To.append sl22 rfl rfl (by repeat constructor) (Reads.of (RdOf.blk (size := 32) (n := 1) (cs := flat [kyV k]) (cs' := vcs kyV [k]) (Nat.le_refl _) (by unfold maxLen; omega) (by simp [flat, kyV, Value.cells, Ky.clen]) (by rw [List.drop_zero, List.take_of_length_le (by simp [flat, kyV, Value.cells, Ky.clen])]; rfl)) (by repeat constructor)) (vtK.ones _) rfl (show vcs kyV (S.take n) ++ vcs kyV [k] = vcs kyV (S.take n ++ [k]) by rw [vcs_app]) (by unfold maxLen; omega) (by omega)) rfl (fun _ => ⟨_, (by repeat' constructor)⟩) ?_
              rintro ⟨⟨ao54, c54⟩, hc54⟩
              dsimp only at hc54 ⊢
              refine WD.one 14 (by kernel_rfl) ?_
              refine WO.to rfl rfl .no (To.append sl22 rfl rfl (by repeat constructor) (Reads.of (RdOf.sub (r := rwK (.slice a3 S.length c3) S.length S) RdOf.own hn (Nat.le_refl _) (cs' := vcs kyV (S.drop n)) (by rw [vtK.drop n (fun _ _ => trivial), List.take_of_length_le (by rw [vtK.size (fun _ _ => trivial), List.length_drop]; exact Nat.le_refl _)])) (by repeat constructor)) (vtK.ones _) hel (show vcs kyV (S.take n ++ [k]) ++ vcs kyV (S.drop n) = vcs kyV (S.take n ++ [k] ++ S.drop n) by rw [← vcs_app]) (by unfold maxLen; omega) (by omega)) rfl (fun _ => ⟨_, (by repeat' constructor)⟩) ?_
              rintro ⟨⟨ao58, c58⟩, hc58⟩
              dsimp only at hc58 ⊢
              refine WD.tk 15 rfl (by kernel_rfl) rfl rfl (Yl.assign rfl) rfl ?_
              refine WD.done (by kernel_rfl) ?_
              refine WC.region ?_
              refine WL.y (Yl.move rfl) rfl ?_
              refine WL.y (Yl.add rfl rfl (IntWalk.i64_in _ (by omega))) rfl ?_
              refine WL.y (Yl.assign rfl) rfl ?_
              refine WL.nil ?_
              exact ⟨rfl, (i + 1, ao58, c58), by dsimp only; omega, by dsimp only; omega, (by dsimp only; rw [← e]; exact (by repeat' constructor)), _, (by dsimp only; rw [← e]; exact (by repeat' constructor))⟩
          · refine WO.to rfl rfl .no (To.buildSlice (vs := [kyV k]) un22 zs32 rfl rfl (fun v hv => by rw [List.mem_singleton] at hv; subst hv; unfold kyV; simp [Value.cells, Ky.clen]) (by decide) (by decide)) rfl (fun _ => ⟨_, (by repeat' constructor)⟩) ?_
            intro b53
            refine WD.one 0 (by kernel_rfl) ?_
            refine WO.to rfl rfl .no (To.buildSlice (vs := []) un22 zs32 rfl rfl (by simp [Value.cells]) (by decide) (by decide)) rfl (fun _ => ⟨_, (by repeat' constructor)⟩) ?_
            intro b44
            rw [show flat [] = [] from rfl]
            refine WD.view (fun w h => h.blkOwn (b := b44) (size := 32) (n := 0) (by repeat constructor) (by unfold maxLen; omega) rfl) ?_
            refine WD.one 4 (by kernel_rfl) ?_
            refine WO.to rfl rfl .no (To.append sl22 rfl rfl (by repeat constructor) (Reads.of (RdOf.sub (r := rwK (.slice a3 S.length c3) S.length S) RdOf.own (Nat.zero_le _) hn (cs' := vcs kyV (S.take n)) (by rw [Nat.zero_mul, List.drop_zero, Nat.sub_zero, vtK.take n (fun _ _ => trivial)])) (by repeat constructor)) (vtK.ones _) (show 0 + (n - 0) = n by rw [Nat.sub_zero, Nat.zero_add]) (List.nil_append _) (by unfold maxLen; omega) (by omega)) rfl (fun _ => ⟨_, (by repeat' constructor)⟩) ?_
            rintro ⟨⟨ao48, c48⟩, hc48⟩
            dsimp only at hc48 ⊢
            refine WD.one 10 (by kernel_rfl) ?_
            refine WO.to rfl rfl .no (To.append sl22 rfl rfl (by repeat constructor) (Reads.of (RdOf.blk (size := 32) (n := 1) (cs := flat [kyV k]) (cs' := vcs kyV [k]) (Nat.le_refl _) (by unfold maxLen; omega) (by simp [flat, kyV, Value.cells, Ky.clen]) (by rw [List.drop_zero, List.take_of_length_le (by simp [flat, kyV, Value.cells, Ky.clen])]; rfl)) (by repeat constructor)) (vtK.ones _) rfl (show vcs kyV (S.take n) ++ vcs kyV [k] = vcs kyV (S.take n ++ [k]) by rw [vcs_app]) (by unfold maxLen; omega) (by omega)) rfl (fun _ => ⟨_, (by repeat' constructor)⟩) ?_
            rintro ⟨⟨ao54, c54⟩, hc54⟩
            dsimp only at hc54 ⊢
            refine WD.one 14 (by kernel_rfl) ?_
            refine WO.to rfl rfl .no (To.append sl22 rfl rfl (by repeat constructor) (Reads.of (RdOf.sub (r := rwK (.slice a3 S.length c3) S.length S) RdOf.own hn (Nat.le_refl _) (cs' := vcs kyV (S.drop n)) (by rw [vtK.drop n (fun _ _ => trivial), List.take_of_length_le (by rw [vtK.size (fun _ _ => trivial), List.length_drop]; exact Nat.le_refl _)])) (by repeat constructor)) (vtK.ones _) hel (show vcs kyV (S.take n ++ [k]) ++ vcs kyV (S.drop n) = vcs kyV (S.take n ++ [k] ++ S.drop n) by rw [← vcs_app]) (by unfold maxLen; omega) (by omega)) rfl (fun _ => ⟨_, (by repeat' constructor)⟩) ?_
            rintro ⟨⟨ao58, c58⟩, hc58⟩
            dsimp only at hc58 ⊢
            refine WD.tk 15 rfl (by kernel_rfl) rfl rfl (Yl.assign rfl) rfl ?_
            refine WD.done (by kernel_rfl) ?_
            refine WC.region ?_
            refine WL.y (Yl.move rfl) rfl ?_
            refine WL.y (Yl.add rfl rfl (IntWalk.i64_in _ (by omega))) rfl ?_
            refine WL.y (Yl.assign rfl) rfl ?_
            refine WL.nil ?_
            exact ⟨rfl, (i + 1, ao58, c58), by dsimp only; omega, by dsimp only; omega, (by dsimp only; rw [← e]; exact (by repeat' constructor)), _, (by dsimp only; rw [← e]; exact (by repeat' constructor))⟩
  · refine WC.exit ?_
    refine WC.seq ?_
    refine WC.region ?_
    refine WL.y (Yl.move rfl) rfl ?_
    refine WL.y (Yl.assign rfl) rfl ?_
    refine WL.nil ?_
    refine WC.ret ?_
    repeat (with_reducible (first | refine peelT ?_ | refine peelB ?_ | refine peelTX ?_ | refine peelBX ?_ | refine peelBN ?_ | refine peelBO rfl ?_))
    have hil : i = l.length := by omega
    subst hil
    rw [List.take_length]
    exact ret1 (.inr rfl) Tryz.results67 rfl fun w' h => ⟨(a3, c3), trivial, rfl, h.sub (by repeat' constructor)⟩
end Go.Proofs.YtcplbkbimpiioaaGreatDoor

namespace Go.Proofs.YtcplbkbimpiioaaGreatDoor
open Go Go.RowKit
theorem allK_by (l : List Ky) : Bytes (allK l) := by
  intro x hx
  obtain ⟨k, _, hk⟩ := List.mem_flatMap.1 hx
  exact k.by8 x hk
theorem hash_ref0 (acc : Int) (ha : 0 ≤ acc ∧ acc < 256) (S : List Ky) (hl : S.length ≤ 1000) : rsumF 64 8 80 1 ([0, 0] ++ allK S ++ [acc]) = hashK acc S 0 := by
  have hal := allK_len S
  rw [← sum512_eq (fun x hx => by
    rcases List.mem_append.1 hx with hx | hx
    · rcases List.mem_append.1 hx with hx | hx
      · simp at hx; omega
      · exact allK_by S x hx
    · simp at hx; omega) (by simp; omega)]
  exact congrArg sum512 (by simp)
theorem hash_ref1 (acc : Int) (S : List Ky) (hl : S.length ≤ 1000) (i : Nat) : rsumF 64 8 80 1 (hashK acc S i ++ allK S) = hashK acc S (i + 1) := by
  have hal := allK_len S
  have hhl := hashK_len acc S i
  rw [← sum512_eq (fun x hx => by
    rcases List.mem_append.1 hx with hx | hx
    · exact hashK_by acc S i x hx
    · exact allK_by S x hx) (by simp; omega)]
  exact congrArg sum512 (by simp)
theorem dig5 {n : Int} (h : 0 ≤ n ∧ n < 100000) : digJ n 5 = [48 + n / 10000, 48 + n / 1000 % 10, 48 + n / 100 % 10, 48 + n / 10 % 10, 48 + n % 10] := by
  have e : digJ n 5 = [48 + n / 10000 % 10, 48 + n / 1000 % 10, 48 + n / 100 % 10, 48 + n / 10 % 10, 48 + n / 1 % 10] := rfl
  rw [e, Int.ediv_one, Int.emod_eq_of_lt (a := n / 10000) (by omega) (by omega)]
set_option maxHeartbeats 1600000 in
set_option maxRecDepth 100000 in
theorem rdig_any (acc : Int) (ha : 0 ≤ acc ∧ acc < 256) (v : Value) (xs : List Ky) (hl : xs.length ≤ 1000) (w : World) (hx : RdS w (fpL []) v 32 xs.length (vcs kyV xs)) (hw : OK w (fpL []) [] w) :
    Fn Tryz.prog 33 [.int .u8 acc, v] [] w (fun _ : Unit => True) (fun _ => .string (strOfNums (digF acc xs))) (fun _ => []) := by
  have hsl := setK_len xs
  unfold digF
  obtain ⟨S, hS⟩ : ∃ S, setK xs = S := ⟨_, rfl⟩
  rw [hS] at hsl ⊢
  have hSl : S.length ≤ 1000 := by omega
  have hal := allK_len S
  refine enterF Tryz.func33 rfl Tryz.ntmps33 rfl hw ?_
  refine WC.seq ?_
  refine WC.region ?_
  refine WL.y (Yl.assign rfl) rfl ?_
  refine WL.nil ?_
  refine WC.seq ?_
  refine WC.region ?_
  refine WL.y (Yl.assign rfl) rfl ?_
  refine WL.nil ?_
  refine WC.seq ?_
  refine WC.region ?_
  refine WL.y (Yl.move rfl) rfl ?_
  refine WL.callC (xs := [.tmp 13]) (cap := []) rfl rfl en67 (by repeat' constructor) (fun w hw => hS ▸ rset_any v xs (by omega) w (hw.srcS (A := []) hx) hw.left.here) rfl ?_
  rintro ⟨ao, cp⟩ -
  refine WL.y (Yl.assign rfl) rfl ?_
  refine WL.nil ?_
  refine WC.seq ?_
  refine WC.seq ?_
  refine WC.region ?_
  refine WL.y (Yl.assign rfl) rfl ?_
  refine WL.nil ?_
  refine WC.block ?_
  refine WC.view (fun w h => h.addNil 5 1) ?_
  refine WC.loop (α := Nat × (Option Addr × Nat)) (fun p => [(0, .int .u8 acc), (5, .slice p.2.1 (allK (S.take p.1)).length p.2.2), (6, .slice ao S.length cp), (7, .int .i64 (p.1 : Int))]) (fun p => [rwK (.slice ao S.length cp) S.length S, ownR (.slice p.2.1 (allK (S.take p.1)).length p.2.2) 5 1 (allK (S.take p.1)).length (ints .u8 (allK (S.take p.1)))]) (fun p => p.1 ≤ S.length) (fun p => S.length - p.1) (0, none, 0) (Nat.zero_le _) ⟨(by repeat' constructor), _, (by repeat' constructor)⟩ ?_
  rintro ⟨i, a5, c5⟩ hi
  dsimp only at hi ⊢
  refine WC.seq ?_
  refine WC.seq ?_
  refine WC.region ?_
  refine WL.y (Yl.move rfl) rfl ?_
  refine WL.y (Yl.move rfl) rfl ?_
  refine WL.y (Yl.len un22 rfl) rfl ?_
  refine WL.y (Yl.lss rfl rfl) rfl ?_
  refine WL.nil ?_
  refine WC.condD rfl (fun g18 => ?_) (fun g18 => ?_)
  · refine WC.skip ?_
    refine WC.seq ?_
    refine WC.block ?_
    refine WC.region ?_
    refine WL.y (Yl.move rfl) rfl ?_
    refine WL.y (Yl.move rfl) rfl ?_
    refine WL.y (Yl.move rfl) rfl ?_
    have hil : i < S.length := by omega
    obtain ⟨k, hk⟩ : ∃ k, S[i]? = some k := ⟨_, List.getElem?_eq_getElem hil⟩
    have hnx := allK_next hk
    have ha1 := allK_len (S.take i)
    have ha2 := allK_len (S.take (i + 1))
    rw [List.length_take, Nat.min_eq_left (by omega)] at ha1 ha2
    refine WL.y (Yl.index un22 sz32 rfl rfl (Reads.of (r := rwK (.slice ao S.length cp) S.length S) RdOf.own (by repeat constructor)) rfl (by omega)) rfl ?_
    refine WL.y (Yl.loadV (j := i) (u := k) vtK (fun _ _ => trivial) rfl (Reads.of (r := rwK (.slice ao S.length cp) S.length S) RdOf.own (by repeat constructor)) rfl hk) rfl ?_
    refine WL.callC (xs := [.tmp 25]) (cap := []) rfl rfl en68 (by repeat' constructor) (fun w hw => rkey_any k w hw.left.here) rfl ?_
    rintro ⟨a26, c26⟩ -
    refine WL.to (To.append sl54 rfl rfl (by repeat constructor) (Reads.of (r := ownR (.slice a26 32 c26) 5 1 32 (ints .u8 k.b)) RdOf.own (by repeat constructor)) (ints_one _ _) (show (allK (S.take i)).length + 32 = (allK (S.take (i + 1))).length by omega) (show ints .u8 (allK (S.take i)) ++ ints .u8 k.b = ints .u8 (allK (S.take (i + 1))) by rw [hnx, ints_append]) (by unfold maxLen; omega) (by omega)) rfl ?_
    rintro ⟨⟨ao27, c27⟩, hc27⟩
    dsimp only at hc27 ⊢
    refine WL.y (Yl.assign rfl) rfl ?_
    refine WL.nil ?_
    refine WC.region ?_
    refine WL.y (Yl.move rfl) rfl ?_
    refine WL.y (Yl.add rfl rfl (IntWalk.i64_in _ (by omega))) rfl ?_
    refine WL.y (Yl.assign rfl) rfl ?_
    refine WL.nil ?_
    exact ⟨rfl, (i + 1, ao27, c27), by dsimp only; omega, by dsimp only; omega, (by repeat' constructor), _, (by repeat' constructor)⟩
  · refine WC.exit ?_
    refine WC.seq ?_
    have hil : i = S.length := by omega
    subst hil
    rw [List.take_length]
    refine WC.region ?_
    refine WL.to (To.buildSlice (vs := [.int .u8 0, .int .u8 0]) un54 zs5 rfl rfl (by simp [Value.cells]) (by decide) (by decide)) rfl ?_
    intro b28
    refine WL.view (fun w h => h.blkOwn (b := b28) (size := 1) (n := 2) (by repeat constructor) (by unfold maxLen; omega) rfl) ?_
    obtain ⟨M1, hM1⟩ : ∃ M, [0, 0] ++ allK S = M := ⟨_, rfl⟩
    obtain ⟨M2, hM2⟩ : ∃ M, M1 ++ [acc] = M := ⟨_, rfl⟩
    have hL1 : M1.length = 2 + 32 * S.length := by rw [← hM1]; simp; omega
    have hL2 : M2.length = 3 + 32 * S.length := by rw [← hM2]; simp; omega
    refine WL.y (Yl.move rfl) rfl ?_
    refine WL.to (To.append sl54 rfl rfl (by repeat constructor) (Reads.of (r := ownR (.slice a5 (allK S).length c5) 5 1 (allK S).length (ints .u8 (allK S))) RdOf.own (by repeat constructor)) (ints_one _ _) (show 2 + (allK S).length = M1.length by omega) (show ints .u8 [0, 0] ++ ints .u8 (allK S) = ints .u8 M1 by rw [ints_append, hM1]) (by unfold maxLen; omega) (by omega)) rfl ?_
    rintro ⟨⟨ao30, c30⟩, hc30⟩
    dsimp only at hc30 ⊢
    refine WL.y (Yl.move rfl) rfl ?_
    refine WL.to (To.buildSlice (vs := [.int .u8 acc]) un54 zs5 rfl rfl (by simp [Value.cells]) (by decide) (by decide)) rfl ?_
    intro b32
    refine WL.to (To.append sl54 rfl rfl (by repeat constructor) (Reads.of (RdOf.blk (cs := [.int .u8 acc]) (cs' := ints .u8 [acc]) (Nat.le_refl _) (by unfold maxLen; omega) (by simp) rfl) (by repeat constructor)) (ints_one _ _) (show M1.length + 1 = M2.length by omega) (show ints .u8 M1 ++ ints .u8 [acc] = ints .u8 M2 by rw [ints_append, hM2]) (by unfold maxLen; omega) (by omega)) rfl ?_
    rintro ⟨⟨ao33, c33⟩, hc33⟩
    dsimp only at hc33 ⊢
    refine WL.callC (xs := [.tmp 33, _]) (cap := []) rfl rfl en69 (by repeat' constructor) (fun w hw => rsum64_any M2 (.slice ao33 M2.length c33) (by omega) w (hw.src (A := []) (r := ownR (.slice ao33 M2.length c33) 5 1 M2.length (ints .u8 M2)) RdOf.own (by repeat constructor)) hw.left.here) rfl ?_
    rintro ⟨a34, c34⟩ -
    rw [← hM2, ← hM1, hash_ref0 acc ha S hSl]
    dsimp only [Nat.reduceMul]
    refine WL.y (Yl.assign rfl) rfl ?_
    refine WL.nil ?_
    refine WC.seq ?_
    refine WC.seq ?_
    refine WC.region ?_
    refine WL.y (Yl.assign rfl) rfl ?_
    refine WL.nil ?_
    refine WC.block ?_
    refine WC.loop (α := Nat × (Option Addr × Nat)) (fun p => [(5, .slice a5 (allK S).length c5), (8, .slice p.2.1 64 p.2.2), (9, .int .i64 (p.1 : Int))]) (fun p => [ownR (.slice a5 (allK S).length c5) 5 1 (allK S).length (ints .u8 (allK S)), ownR (.slice p.2.1 64 p.2.2) 5 1 64 (ints .u8 (hashK acc S p.1))]) (fun p => p.1 ≤ 32) (fun p => 32 - p.1) (0, a34, c34) (by dsimp only; omega) ⟨(by repeat' constructor), _, (by repeat' constructor)⟩ ?_
    rintro ⟨i, a8, c8⟩ hi
    dsimp only at hi ⊢
    have hhl := hashK_len acc S i
    refine WC.seq ?_
    refine WC.seq ?_
    refine WC.region ?_
    refine WL.y (Yl.move rfl) rfl ?_
    refine WL.y (Yl.lss rfl rfl) rfl ?_
    refine WL.nil ?_
    refine WC.condD rfl (fun g36 => ?_) (fun g36 => ?_)
    · refine WC.skip ?_
      refine WC.seq ?_
      refine WC.block ?_
      refine WC.region ?_
      refine WL.to (To.buildSlice (vs := []) un54 zs5 rfl rfl (by simp [Value.cells]) (by decide) (by decide)) rfl ?_
      intro b39
      rw [show flat [] = [] from rfl]
      refine WL.view (fun w h => h.blkOwn (b := b39) (size := 1) (n := 0) (by repeat constructor) (by unfold maxLen; omega) rfl) ?_
      obtain ⟨M4, hM4⟩ : ∃ M, hashK acc S i ++ allK S = M := ⟨_, rfl⟩
      have hL4 : M4.length = 64 + 32 * S.length := by rw [← hM4]; simp; omega
      refine WL.y (Yl.move rfl) rfl ?_
      refine WL.to (To.append sl54 rfl rfl (by repeat constructor) (Reads.of (r := ownR (.slice a8 64 c8) 5 1 64 (ints .u8 (hashK acc S i))) RdOf.own (by repeat constructor)) (ints_one _ _) (Nat.zero_add _) (List.nil_append _) (by unfold maxLen; omega) (by omega)) rfl ?_
      rintro ⟨⟨ao41, c41⟩, hc41⟩
      dsimp only at hc41 ⊢
      refine WL.y (Yl.move rfl) rfl ?_
      refine WL.to (To.append sl54 rfl rfl (by repeat constructor) (Reads.of (r := ownR (.slice a5 (allK S).length c5) 5 1 (allK S).length (ints .u8 (allK S))) RdOf.own (by repeat constructor)) (ints_one _ _) (show 64 + (allK S).length = M4.length by omega) (show ints .u8 (hashK acc S i) ++ ints .u8 (allK S) = ints .u8 M4 by rw [ints_append, hM4]) (by unfold maxLen; omega) (by omega)) rfl ?_
      rintro ⟨⟨ao43, c43⟩, hc43⟩
      dsimp only at hc43 ⊢
      refine WL.callC (xs := [.tmp 43, _]) (cap := []) rfl rfl en69 (by repeat' constructor) (fun w hw => rsum64_any M4 (.slice ao43 M4.length c43) (by omega) w (hw.src (A := []) (r := ownR (.slice ao43 M4.length c43) 5 1 M4.length (ints .u8 M4)) RdOf.own (by repeat constructor)) hw.left.here) rfl ?_
      rintro ⟨a44, c44⟩ -
      rw [← hM4, hash_ref1 acc S hSl i]
      dsimp only [Nat.reduceMul]
      refine WL.y (Yl.assign rfl) rfl ?_
      refine WL.nil ?_
      refine WC.region ?_
      refine WL.y (Yl.move rfl) rfl ?_
      refine WL.y (Yl.add rfl rfl (IntWalk.i64_in _ (by omega))) rfl ?_
      refine WL.y (Yl.assign rfl) rfl ?_
      refine WL.nil ?_
      exact ⟨rfl, (i + 1, a44, c44), by dsimp only; omega, by dsimp only; omega, (by repeat' constructor), _, (by repeat' constructor)⟩
    · refine WC.exit ?_
      refine WC.seq ?_
      have hi32 : i = 32 := by omega
      subst hi32
      have hhb := hashK_by acc S 32
      obtain ⟨h, hh⟩ : ∃ h, hashK acc S 32 = h := ⟨_, rfl⟩
      rw [hh] at hhl hhb ⊢
      refine WC.region ?_
      refine WL.y (Yl.assign rfl) rfl ?_
      refine WL.nil ?_
      refine WC.seq ?_
      refine WC.seq ?_
      refine WC.region ?_
      refine WL.y (Yl.assign rfl) rfl ?_
      refine WL.nil ?_
      refine WC.block ?_
      refine WC.view (fun w h => h.addNil 5 1) ?_
      refine WC.loop (α := Nat × (Option Addr × Nat)) (fun p => [(8, .slice a8 64 c8), (10, .slice p.2.1 (digG h p.1).length p.2.2), (11, .int .i64 (p.1 : Int))]) (fun p => [ownR (.slice a8 64 c8) 5 1 64 (ints .u8 h), ownR (.slice p.2.1 (digG h p.1).length p.2.2) 5 1 (digG h p.1).length (ints .u8 (digG h p.1))]) (fun p => p.1 ≤ 6) (fun p => 6 - p.1) (0, none, 0) (by dsimp only; omega) ⟨(by repeat' constructor), _, (by repeat' constructor)⟩ ?_
      rintro ⟨i, a10, c10⟩ hi
      dsimp only at hi ⊢
      have hgl := digG_len h i
      refine WC.seq ?_
      refine WC.seq ?_
      refine WC.region ?_
      refine WL.y (Yl.move rfl) rfl ?_
      refine WL.y (Yl.lss rfl rfl) rfl ?_
      refine WL.nil ?_
      refine WC.condD rfl (fun g46 => ?_) (fun g46 => ?_)
      · refine WC.skip ?_
        refine WC.seq ?_
        refine WC.block ?_
        refine WC.seq ?_
        have hi6 : i < 6 := by omega
        have hc5 : ((h.drop (5 * i)).take 5).length = 5 := by rw [List.length_take, List.length_drop]; omega
        have hcb : Bytes ((h.drop (5 * i)).take 5) := (hhb.drop _).take _
        have hv := val_range hcb
        rw [hc5] at hv
        have hg : 0 ≤ grp h i ∧ grp h i < 100000 := by unfold grp; omega
        have hrd : RdOf (ownR (.slice a8 64 c8) 5 1 64 (ints .u8 h)) (subS (.slice a8 64 c8) (5 * i) (5 * i + 5) c8 1) 1 5 (ints .u8 ((h.drop (5 * i)).take 5)) := by
          have := RdOf.sub (r := ownR (.slice a8 64 c8) 5 1 64 (ints .u8 h)) (size := 1) (ao := a8) (n := 64) (cap := c8) (l := 5 * i) (h := 5 * i + 5) (cs := ints .u8 h) (cs' := ints .u8 ((h.drop (5 * i)).take 5)) RdOf.own (by omega) (by omega) (by simp only [Nat.mul_one]; rw [show 5 * i + 5 - 5 * i = 5 by omega, ints_drop, ints_take])
          rwa [show 5 * i + 5 - 5 * i = 5 by omega] at this
        refine WC.viewX (α := Unit) (φ := fun _ => 64 ≤ c8) (H' := fun _ => [ownR (.slice a8 64 c8) 5 1 64 (ints .u8 h), ownR (.slice a10 (digG h i).length c10) 5 1 (digG h i).length (ints .u8 (digG h i))]) (fun w h => ⟨(), Sown.le (h.get .head), h⟩) ?_
        rintro ⟨⟩ hcap
        refine WC.region ?_
        refine WL.y (Yl.move rfl) rfl ?_
        refine WL.y (Yl.move rfl) rfl ?_
        refine WL.y (Yl.mul rfl rfl (IntWalk.i64_in _ (by omega))) rfl ?_
        refine WL.y (Yl.move rfl) rfl ?_
        refine WL.y (Yl.mul rfl rfl (IntWalk.i64_in _ (by omega))) rfl ?_
        refine WL.y (Yl.add rfl rfl (IntWalk.i64_in _ (by omega))) rfl ?_
        refine WL.y (Yl.slice (l := 5 * i) (h := 5 * i + 5) un54 sz5 rfl ⟨_, rfl⟩ ⟨_, rfl⟩ (by omega) (by omega)) rfl ?_
        refine WL.callC (xs := [.tmp 55]) (cap := []) rfl rfl en70 (by repeat' constructor) (fun w hw => of_any ((h.drop (5 * i)).take 5) (subS (.slice a8 64 c8) (5 * i) (5 * i + 5) c8 1) hcb (by omega) w (by rw [hc5]; exact hw.src (A := []) (r := ownR (.slice a8 64 c8) 5 1 64 (ints .u8 h)) hrd (by repeat constructor)) hw.left.here) rfl ?_
        rintro ⟨⟩ -
        refine WL.y (Yl.rem (r := grp h i) rfl rfl (by decide) (by unfold grp; exact Int.tmod_eq_emod_of_nonneg hv.1)) rfl ?_
        refine WL.y (Yl.assign rfl) rfl ?_
        refine WL.nil ?_
        have hd5 := dig5 hg
        obtain ⟨g, hgg⟩ : ∃ g, grp h i = g := ⟨_, rfl⟩
        have hgn := digG_next h i
        rw [hgg] at hg hd5 hgn ⊢
        have hgl2 := digG_len h (i + 1)
        refine WC.region ?_
        refine WL.y (Yl.move rfl) rfl ?_
        refine WL.y (Yl.move rfl) rfl ?_
        refine WL.y (Yl.quo (r := g / 10000) rfl rfl (by decide) (by rw [Int.tdiv_eq_ediv_of_nonneg hg.1]; exact u64_in _ (by omega))) rfl ?_
        refine WL.y (Yl.add rfl rfl (u64_in _ (by omega))) rfl ?_
        refine WL.y (Yl.conv un122 un5 rfl (show IntKind.u8.wrap (48 + g / 10000) = 48 + g / 10000 by rw [IntKind.wrap_u8]; omega)) rfl ?_
        refine WL.y (Yl.move rfl) rfl ?_
        refine WL.y (Yl.quo (r := g / 1000) rfl rfl (by decide) (by rw [Int.tdiv_eq_ediv_of_nonneg hg.1]; exact u64_in _ (by omega))) rfl ?_
        refine WL.y (Yl.rem (r := g / 1000 % 10) rfl rfl (by decide) (Int.tmod_eq_emod_of_nonneg (by omega))) rfl ?_
        refine WL.y (Yl.add rfl rfl (u64_in _ (by omega))) rfl ?_
        refine WL.y (Yl.conv un122 un5 rfl (show IntKind.u8.wrap (48 + g / 1000 % 10) = 48 + g / 1000 % 10 by rw [IntKind.wrap_u8]; omega)) rfl ?_
        refine WL.y (Yl.move rfl) rfl ?_
        refine WL.y (Yl.quo (r := g / 100) rfl rfl (by decide) (by rw [Int.tdiv_eq_ediv_of_nonneg hg.1]; exact u64_in _ (by omega))) rfl ?_
        refine WL.y (Yl.rem (r := g / 100 % 10) rfl rfl (by decide) (Int.tmod_eq_emod_of_nonneg (by omega))) rfl ?_
        refine WL.y (Yl.add rfl rfl (u64_in _ (by omega))) rfl ?_
        refine WL.y (Yl.conv un122 un5 rfl (show IntKind.u8.wrap (48 + g / 100 % 10) = 48 + g / 100 % 10 by rw [IntKind.wrap_u8]; omega)) rfl ?_
        refine WL.y (Yl.move rfl) rfl ?_
        refine WL.y (Yl.quo (r := g / 10) rfl rfl (by decide) (by rw [Int.tdiv_eq_ediv_of_nonneg hg.1]; exact u64_in _ (by omega))) rfl ?_
        refine WL.y (Yl.rem (r := g / 10 % 10) rfl rfl (by decide) (Int.tmod_eq_emod_of_nonneg (by omega))) rfl ?_
        refine WL.y (Yl.add rfl rfl (u64_in _ (by omega))) rfl ?_
        refine WL.y (Yl.conv un122 un5 rfl (show IntKind.u8.wrap (48 + g / 10 % 10) = 48 + g / 10 % 10 by rw [IntKind.wrap_u8]; omega)) rfl ?_
        refine WL.y (Yl.move rfl) rfl ?_
        refine WL.y (Yl.rem (r := g % 10) rfl rfl (by decide) (Int.tmod_eq_emod_of_nonneg (by omega))) rfl ?_
        refine WL.y (Yl.add rfl rfl (u64_in _ (by omega))) rfl ?_
        refine WL.y (Yl.conv un122 un5 rfl (show IntKind.u8.wrap (48 + g % 10) = 48 + g % 10 by rw [IntKind.wrap_u8]; omega)) rfl ?_
        refine WL.to (To.buildSlice (vs := [.int .u8 (48 + g / 10000), .int .u8 (48 + g / 1000 % 10), .int .u8 (48 + g / 100 % 10), .int .u8 (48 + g / 10 % 10), .int .u8 (48 + g % 10)]) un54 zs5 rfl rfl (by simp [Value.cells]) (by decide) (by decide)) rfl ?_
        intro b82
        refine WL.to (To.append sl54 rfl rfl (by repeat constructor) (Reads.of (RdOf.blk (n := 5) (cs := [.int .u8 (48 + g / 10000), .int .u8 (48 + g / 1000 % 10), .int .u8 (48 + g / 100 % 10), .int .u8 (48 + g / 10 % 10), .int .u8 (48 + g % 10)]) (cs' := ints .u8 (digJ g 5)) (Nat.le_refl _) (by unfold maxLen; omega) (by simp) (by rw [hd5]; rfl)) (by repeat constructor)) (ints_one _ _) (show (digG h i).length + 5 = (digG h (i + 1)).length by omega) (show ints .u8 (digG h i) ++ ints .u8 (digJ g 5) = ints .u8 (digG h (i + 1)) by rw [hgn, ints_append]) (by unfold maxLen; omega) (by omega)) rfl ?_
        rintro ⟨⟨ao83, c83⟩, hc83⟩
        dsimp only at hc83 ⊢
        refine WL.y (Yl.assign rfl) rfl ?_
        refine WL.nil ?_
        refine WC.region ?_
        refine WL.y (Yl.move rfl) rfl ?_
        refine WL.y (Yl.add rfl rfl (IntWalk.i64_in _ (by omega))) rfl ?_
        refine WL.y (Yl.assign rfl) rfl ?_
        refine WL.nil ?_
        exact ⟨rfl, (i + 1, ao83, c83), by dsimp only; omega, by dsimp only; omega, (by repeat' constructor), _, (by repeat' constructor)⟩
      · refine WC.exit ?_
        refine WC.seq ?_
        have hi6 : i = 6 := by omega
        subst hi6
        refine WC.region ?_
        refine WL.y (Yl.move rfl) rfl ?_
        refine WL.y (Yl.toStr (xs := digG h 6) un54 un5 un9 rfl (Reads.of (r := ownR (.slice a10 (digG h 6).length c10) 5 1 (digG h 6).length (ints .u8 (digG h 6))) RdOf.own (by repeat constructor))) rfl ?_
        refine WL.y (Yl.assign rfl) rfl ?_
        refine WL.nil ?_
        refine WC.ret ?_
        repeat (with_reducible (first | refine peelT ?_ | refine peelB ?_ | refine peelTX ?_ | refine peelBX ?_ | refine peelBN ?_ | refine peelBO rfl ?_))
        exact ret1 (.inr rfl) Tryz.results33 rfl fun w' h => ⟨(), trivial, rfl, h.sub (by repeat' constructor)⟩
end Go.Proofs.YtcplbkbimpiioaaGreatDoor
