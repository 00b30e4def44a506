/- A line's row: the walk. -/
import Derived.Test.YtbgimajbehodnaaGreatDoorRepT
import Derived.Test.YtbgimajbehodnaaGreatDoorRepJ
import Derived.Test.YtbgimajbehodnaaGreatDoorLibN
import Derived.Test.YtbgimajbehodnaaGreatDoorLibH
namespace Go.Proofs.YtbgimajbehodnaaGreatDoor
open Go Go.RowKit
/-- What a line tells: its row, and whether it is one. -/
structure LnOk (l : List Int) (p : Int) (ns : List Int) (b : Bool) : Prop where
  pu : U8 p
  len : ns.length = 6
  n : ∀ x ∈ ns, U64 x
  yes : b = true → RGd p ns ∧ l = rowT p ns
  no : ∀ (q : Int) (ms : List Int), RGd q ms → l = rowT q ms → b = true
theorem rwC_set {p : Int} {l : List Int} {k : Nat} {v : Int} : (rwC p l).set (k + 1) (.int .u64 v) = rwC p (l.set k v) := by simp [rwC, ints, List.map_set]
section
variable {c : Cx} {env : Env} {ds : List Deferred} {H : List Res} {dst : Option Tmp} {ty : TypeId} {pos : String} {af : Array Edge} {g : Option (Nat × Bool)}
def mx3 (i j m : Int) : Int := if m > (if j > i then j else i) then m else (if j > i then j else i)
theorem mx3_le {i j m n : Int} : mx3 i j m ≤ n ↔ i ≤ n ∧ j ≤ n ∧ m ≤ n := by
  unfold mx3
  split <;> split <;> omega
theorem Yl.max3 {t u s : TypeId} {x y z : Operand} {k k2 k3 : IntKind} {i j m : Int} (hx : ev env x = some (.int k i)) (hy : ev env y = some (.int k2 j)) (hz : ev env z = some (.int k3 m)) : Yl c env ds H ⟨dst, .call { callee := .builtin .max, args := #[x, y, z], argTypes := #[t, u, s] }, ty, pos, af, g⟩ (.int k (mx3 i j m)) := fun a w ha _ => by
  unfold mx3
  by_cases h : j > i
  · by_cases h2 : m > j
    · simp [execOp, resolve, invoke, builtin, Builtin.max_, Builtin.max2, ha.ev hx, ha.ev hy, ha.ev hz, h, h2]
    · simp [execOp, resolve, invoke, builtin, Builtin.max_, Builtin.max2, ha.ev hx, ha.ev hy, ha.ev hz, h, h2]
  · by_cases h2 : m > i
    · simp [execOp, resolve, invoke, builtin, Builtin.max_, Builtin.max2, ha.ev hx, ha.ev hy, ha.ev hz, h, h2]
    · simp [execOp, resolve, invoke, builtin, Builtin.max_, Builtin.max2, ha.ev hx, ha.ev hy, ha.ev hz, h, h2]
end
theorem U64.of {n : Nat} (h : n < 18446744073709551616) : U64 (n : Int) := ⟨by omega, by omega⟩
/-- What is known of a line's words when i of its numbers were read. -/
structure LnI (ps : List (List Int)) (p : Int) (ns : List Int) (ok : Bool) (i : Nat) : Prop where
  len : ns.length = 6
  n : ∀ x ∈ ns, U64 x
  yes : ok = true → ps.take (i + 1) = decI p.toNat :: (ns.take i).map fun n => decI n.toNat
  no : ∀ (q : Int) (ms : List Int), U8 q → ms.length = 6 → (∀ x ∈ ms, U64 x) → (ps = decI q.toNat :: ms.map fun n => decI n.toNat) → ok = true ∧ p = q ∧ ns.take i = ms.take i
theorem LnI.step {ps : List (List Int)} {p : Int} {ns : List Int} {ok : Bool} {i : Nat} (h : LnI ps p ns ok i) (hi : i < 6) {l : List Int} (hl : ps[i + 1]? = some l) {y : Nat × Bool} (hy : numOk 64 l y) : LnI ps p (ns.set i (y.1 : Int)) (ok && y.2) (i + 1) := by
  have hn := h.len
  have ht : (ns.set i (y.1 : Int)).take (i + 1) = ns.take i ++ [(y.1 : Int)] := by
    rw [← take_snoc _ i (y.1 : Int) (by rw [List.getElem?_set_self (by omega)]), List.take_set_of_le (by omega)]
  refine ⟨by rw [List.length_set]; exact hn, fun x hx => ?_, fun e => ?_, fun q ms h1 h2 h3 h4 => ?_⟩
  · rcases List.mem_or_eq_of_mem_set hx with hx | rfl
    · exact h.n x hx
    · exact U64.of hy.1
  · rw [Bool.and_eq_true] at e
    obtain ⟨e1, e2⟩ := e
    have h5 := h.yes e1
    rw [← take_snoc _ _ _ hl, h5, ht, List.map_append, (hy.2.1 e2).1]
    simp
  · obtain ⟨a, b, d⟩ := h.no q ms h1 h2 h3 h4
    obtain ⟨m, hm⟩ : ∃ m, ms[i]? = some m := ⟨_, List.getElem?_eq_getElem (by omega)⟩
    have hmu := h3 m (List.mem_of_getElem? hm)
    have hl2 : l = decI m.toNat := by
      rw [h4] at hl
      simp [hm] at hl
      exact hl.symm
    have h6 := hy.2.2 m.toNat (by unfold U64 at hmu; show m.toNat < 18446744073709551616; omega) hl2
    refine ⟨by rw [a, h6]; rfl, b, ?_⟩
    rw [ht, d, ← take_snoc _ _ _ hm, h6]
    have : ((m.toNat : Nat) : Int) = m := by unfold U64 at hmu; omega
    rw [this]
/-- .. and when all were. -/
theorem LnI.done {l : List Int} {p : Int} {ns : List Int} {ok : Bool} (hp : U8 p) (h : LnI (spI l) p ns ok 6) (h7 : (spI l).length = 7) : LnOk l p ns (ok && (decide (0 < ns.getD 0 0) && decide (mx3 (ns.getD 1 0) (ns.getD 2 0) (ns.getD 5 0) ≤ ns.getD 0 0))) := by
  have ht : ns.take 6 = ns := List.take_of_length_le (by rw [h.len]; exact Nat.le_refl _)
  refine ⟨hp, h.len, h.n, fun e => ?_, fun q ms hg e => ?_⟩
  · rw [Bool.and_eq_true, Bool.and_eq_true, decide_eq_true_iff, decide_eq_true_iff, mx3_le] at e
    obtain ⟨e1, e2, e3, e4, e5⟩ := e
    have h5 := h.yes e1
    rw [List.take_of_length_le (by omega), ht] at h5
    refine ⟨⟨hp, h.len, h.n, e2, e3, e4, e5⟩, ?_⟩
    rw [spI_back h5, rowT, numI_jo]
  · obtain ⟨a, b, d⟩ := h.no q ms hg.p hg.len hg.n (by rw [e, spI_row])
    rw [ht, List.take_of_length_le (by rw [hg.len]; exact Nat.le_refl _)] at d
    subst b d
    rw [a, decide_eq_true hg.pos, decide_eq_true (mx3_le.2 ⟨hg.o, hg.t, hg.m⟩)]
    rfl
theorem LnI.start {ps : List (List Int)} {l : List Int} (hl : ps[0]? = some l) {y : Nat × Bool} (hy : numOk 8 l y) : LnI ps ((y.1 % 256 : Nat) : Int) [0, 0, 0, 0, 0, 0] y.2 0 := by
  refine ⟨rfl, fun x hx => ?_, fun e => ?_, fun q ms h1 h2 h3 h4 => ?_⟩
  · rw [List.eq_of_mem_replicate (n := 6) hx]; decide
  · obtain ⟨h5, h6⟩ := hy.2.1 e
    have h7 : y.1 < 256 := h6
    cases ps with
    | nil => cases hl
    | cons a ps =>
      cases hl
      rw [h5, Nat.mod_eq_of_lt h7]
      rfl
  · rw [h4] at hl
    cases hl
    have h7 : q.toNat < 256 := by unfold U8 at h1; omega
    have h6 := hy.2.2 q.toNat h7 rfl
    rw [h6]
    refine ⟨rfl, ?_, rfl⟩
    show ((q.toNat % 256 : Nat) : Int) = q
    unfold U8 at h1
    omega
theorem rwC_getD {p : Int} {l : List Int} {k : Nat} (h : l.length = 6) (hk : k < 6) : (rwC p l)[0 + (k + 1)]? = some (.int .u64 (l.getD k 0)) := by
  rw [Nat.zero_add]
  refine rwC_at ?_
  rw [List.getD_eq_getElem?_getD, List.getElem?_eq_getElem (by omega)]
  rfl
theorem rwC_call {p : Int} {l : List Int} (h : l.length = 6) : ((rwC p l).drop 0).take 7 = rwC p l := by
  rw [List.drop_zero, List.take_of_length_le (by rw [rwC_len h]; exact Nat.le_refl _)]
set_option maxRecDepth 100000 in
set_option maxHeartbeats 1600000 in
theorem line_any (l : List Int) (hby : Bytes l) (hl : l.length ≤ 1000000000) (w : World) (hw : OK w (fpL [glR]) [glR] w) :
    Fn Tryz.prog 57 [.string (strOfNums l)] [glR] w (fun y : Int × List Int × Bool => LnOk l y.1 y.2.1 y.2.2) (fun y => .tuple #[rwV y.1 y.2.1, .bool y.2.2]) (fun _ => [glR]) := by
  obtain ⟨ps, hps⟩ : ∃ ps, ps = spI l := ⟨_, rfl⟩
  have hpb : ∀ p ∈ ps, Bytes p := hps ▸ spI_bytes hby
  have hpl : ∀ p ∈ ps, p.length ≤ 1000000000 := fun p hp => Nat.le_trans (spI_le p (hps ▸ hp)) hl
  refine enterF Tryz.func57 rfl Tryz.ntmps57 rfl hw ?_
  refine WC.seq ?_
  refine WC.region ?_
  refine WL.to (To.alloc (cs := rwC 0 [0, 0, 0, 0, 0, 0]) zr70 rfl) rfl ?_
  intro b2
  refine WL.y (Yl.assign rfl) rfl ?_
  refine WL.nil ?_
  refine WC.seq ?_
  refine WC.region ?_
  refine WL.y (Yl.move rfl) rfl ?_
  refine WL.callC (xs := [.tmp 12, _]) (cap := []) rfl rfl en95 (by repeat' constructor) (fun w hw => split_any l hby hl w (hw.srcGr (by repeat constructor))) rfl ?_
  rintro b13 -
  rw [← hps]
  refine WL.y (Yl.assign rfl) rfl ?_
  refine WL.nil ?_
  refine WC.seq ?_
  refine WC.seq ?_
  refine WC.region ?_
  refine WL.y (Yl.move rfl) rfl ?_
  refine WL.y (Yl.len un85 rfl) rfl ?_
  refine WL.y (Yl.neq rfl rfl) rfl ?_
  refine WL.nil ?_
  refine WC.condD rfl (fun g16 => ?_) (fun g16 => ?_)
  · refine WC.seq ?_
    refine WC.region ?_
    refine WL.y (Yl.build rfl (cs := rwC 0 [0, 0, 0, 0, 0, 0]) (fun _ => by kernel_rfl)) rfl ?_
    refine WL.sto (Sto.agg sz70 rfl rfl (by repeat constructor) (rwC_ones _ _) rfl (by rfl) (putAll rfl)) (fun _ h => nomatch h) ?_
    refine WL.y (Yl.assign rfl) rfl ?_
    refine WL.nil ?_
    refine WC.ret ?_
    repeat (with_reducible (first | refine peelT ?_ | refine peelB ?_ | refine peelTX ?_ | refine peelBX ?_ | refine peelBN ?_ | refine peelBO rfl ?_))
    exact retC2 (.inr rfl) Tryz.results57 ag70 rfl rfl (by repeat constructor) rfl fun w' h => ⟨(0, [0, 0, 0, 0, 0, 0], false), ⟨⟨by decide, by decide⟩, rfl, fun x hx => by rw [List.eq_of_mem_replicate (n := 6) hx]; decide, (fun e => nomatch e), fun q ms hg e => by
      have h7 : ps.length = 7 := by rw [hps, e, spI_row, List.length_cons, List.length_map, hg.len]
      rw [h7] at g16
      exact absurd rfl g16⟩, rfl, h.sub (by repeat' constructor)⟩
  · refine WC.skip ?_
    refine WC.seq ?_
    refine WC.region ?_
    have h7 : ps.length = 7 := by have h0 := g16; simp at h0; omega
    obtain ⟨l0, hl0⟩ : ∃ l0, ps[0]? = some l0 := ⟨_, List.getElem?_eq_getElem (by omega)⟩
    have hl0m := List.mem_of_getElem? hl0
    refine WL.y (Yl.move rfl) rfl ?_
    refine WL.y (Yl.index (j := 0) un85 sz9 rfl rfl (Reads.of (RdOf.blk (b := b13) (off := 0) (size := 1) (n := ps.length) (cap := ps.length) (T := 9) (cs := ps.map strV) (cs' := ps.map strV) (Nat.le_refl _) (by unfold maxLen; omega) (by rw [List.length_map]; omega) (by rw [List.drop_zero, Nat.mul_one, List.take_of_length_le (by rw [List.length_map]; exact Nat.le_refl _)])) (by repeat constructor)) rfl (by omega)) rfl ?_
    refine WL.y (Yl.loadE (j := 0) (u := strV l0) on9 rfl (Reads.of (RdOf.blk (b := b13) (off := 0) (size := 1) (n := ps.length) (cap := ps.length) (T := 9) (cs := ps.map strV) (cs' := ps.map strV) (Nat.le_refl _) (by unfold maxLen; omega) (by rw [List.length_map]; omega) (by rw [List.drop_zero, Nat.mul_one, List.take_of_length_le (by rw [List.length_map]; exact Nat.le_refl _)])) (by repeat constructor)) (by simp [hl0])) rfl ?_
    refine WL.callC (xs := [.tmp 21, _]) (cap := []) rfl rfl en96 (by repeat' constructor) (fun w hw => number_any 8 (.inl rfl) l0 (hpl l0 hl0m) (hpb l0 hl0m) w (hw.srcGr (by repeat constructor)) hw.left.here) rfl ?_
    rintro ⟨n0, k0⟩ hy0
    dsimp only
    obtain ⟨p, hp⟩ : ∃ p : Int, p = ((n0 % 256 : Nat) : Int) := ⟨_, rfl⟩
    have hst : LnI ps p [0, 0, 0, 0, 0, 0] k0 0 := by rw [hp]; exact LnI.start hl0 hy0
    have hpu : U8 p := by rw [hp]; unfold U8; omega
    refine WL.y (Yl.move rfl) rfl ?_
    refine WL.y (Yl.extract rfl rfl) rfl ?_
    refine WL.y (Yl.extract rfl rfl) rfl ?_
    refine WL.y (Yl.assign rfl) rfl ?_
    refine WL.y (Yl.assign rfl) rfl ?_
    refine WL.nil ?_
    refine WC.seq ?_
    refine WC.region ?_
    refine WL.y (Yl.move rfl) rfl ?_
    refine WL.y (Yl.conv un34 un5 rfl (show IntKind.u8.wrap (n0 : Int) = p by rw [hp, IntKind.wrap_u8]; omega)) rfl ?_
    refine WL.y (Yl.build rfl (cs := rwC p [0, 0, 0, 0, 0, 0]) (fun _ => by kernel_rfl)) rfl ?_
    refine WL.to (To.alloc (cs := rwC 0 [0, 0, 0, 0, 0, 0]) zr70 rfl) rfl ?_
    intro b7
    refine WL.sto (Sto.agg sz70 rfl rfl (by repeat constructor) (rwC_ones _ _) rfl (by rfl) (putAll rfl)) (fun _ h => nomatch h) ?_
    refine WL.nil ?_
    refine WC.seq ?_
    refine WC.seq ?_
    refine WC.region ?_
    refine WL.callC (xs := [.tmp 7]) (cap := []) rfl rfl en62 (by repeat' constructor) (fun w hw => nums_any b7 w hw.left.here) rfl ?_
    rintro ⟨⟩ -
    refine WL.y (Yl.move rfl) rfl ?_
    refine WL.nil ?_
    refine WC.block ?_
    refine WC.loop (α := Nat × List Int × Bool) (fun k => [(2, .pointer (some ⟨b2, 0, none⟩)), (4, .slice (some ⟨b13, 0, none⟩) ps.length ps.length), (6, .bool k.2.2), (7, .pointer (some ⟨b7, 0, none⟩)), (28, .agg (numV b7).toArray), (29, .int .i64 (k.1 : Int))]) (fun k => [blkR b7 70 (rwC p k.2.1), blkR b2 70 (rwC 0 [0, 0, 0, 0, 0, 0]), blkR b13 9 (ps.map strV), glR]) (fun k => k.1 ≤ 6 ∧ LnI ps p k.2.1 k.2.2 k.1) (fun k => 6 - k.1) (0, [0, 0, 0, 0, 0, 0], k0) ⟨Nat.zero_le _, hst⟩ ⟨(by repeat' constructor), _, (by repeat' constructor)⟩ ?_
    rintro ⟨k, ns, ok⟩ ⟨hk, hI⟩
    dsimp only at hk hI ⊢
    refine WC.seq ?_
    refine WC.region ?_
    refine WL.y (Yl.lss rfl rfl) rfl ?_
    refine WL.nil ?_
    refine WC.seq ?_
    refine WC.condD rfl (fun g30 => ?_) (fun g30 => ?_)
    · refine WC.skip ?_
      refine WC.seq ?_
      refine WC.block ?_
      refine WC.seq ?_
      refine WC.region ?_
      have hk6 : k < 6 := by omega
      obtain ⟨lk, hlk⟩ : ∃ lk, ps[k + 1]? = some lk := ⟨_, List.getElem?_eq_getElem (by omega)⟩
      have hlkm := List.mem_of_getElem? hlk
      have hnl := hI.len
      refine WL.y (Yl.move rfl) rfl ?_
      refine WL.y (Yl.idx un131 sz130 on130 rfl rfl rfl (by omega) (numV_at b7 hk6)) rfl ?_
      refine WL.y (Yl.assign rfl) rfl ?_
      refine WL.y (Yl.assign rfl) rfl ?_
      refine WL.nil ?_
      refine WC.seq ?_
      refine WC.region ?_
      refine WL.y (Yl.move rfl) rfl ?_
      refine WL.y (Yl.move rfl) rfl ?_
      refine WL.y (Yl.add rfl rfl (IntWalk.i64_in _ (by omega))) rfl ?_
      refine WL.say (t := 36) (v' := .int .i64 ((k + 1 : Nat) : Int)) rfl (by (refine congrArg _ ?_; omega)) ?_
      refine WL.y (Yl.index un85 sz9 rfl rfl (Reads.of (RdOf.blk (b := b13) (off := 0) (size := 1) (n := ps.length) (cap := ps.length) (T := 9) (cs := ps.map strV) (cs' := ps.map strV) (Nat.le_refl _) (by unfold maxLen; omega) (by rw [List.length_map]; omega) (by rw [List.drop_zero, Nat.mul_one, List.take_of_length_le (by rw [List.length_map]; exact Nat.le_refl _)])) (by repeat constructor)) rfl (by omega)) rfl ?_
      refine WL.y (Yl.loadE (j := k + 1) (u := strV lk) on9 rfl (Reads.of (RdOf.blk (b := b13) (off := 0) (size := 1) (n := ps.length) (cap := ps.length) (T := 9) (cs := ps.map strV) (cs' := ps.map strV) (Nat.le_refl _) (by unfold maxLen; omega) (by rw [List.length_map]; omega) (by rw [List.drop_zero, Nat.mul_one, List.take_of_length_le (by rw [List.length_map]; exact Nat.le_refl _)])) (by repeat constructor)) (by simp [hlk])) rfl ?_
      refine WL.callC (xs := [.tmp 38, _]) (cap := []) rfl rfl en96 (by repeat' constructor) (fun w hw => number_any 64 (.inr rfl) lk (hpl lk hlkm) (hpb lk hlkm) w (hw.srcGr (by repeat constructor)) hw.left.here) rfl ?_
      rintro ⟨nk, kk⟩ hyk
      have hI2 := hI.step hk6 hlk hyk
      dsimp only at hI2 ⊢
      refine WL.y (Yl.move rfl) rfl ?_
      refine WL.y (Yl.extract rfl rfl) rfl ?_
      refine WL.y (Yl.extract rfl rfl) rfl ?_
      refine WL.y (Yl.assign rfl) rfl ?_
      refine WL.y (Yl.assign rfl) rfl ?_
      refine WL.nil ?_
      refine WC.region ?_
      refine WL.y (Yl.move rfl) rfl ?_
      refine WL.y (Yl.move rfl) rfl ?_
      refine WL.y (Yl.move rfl) rfl ?_
      refine WL.y (Yl.move rfl) rfl ?_
      refine WL.both (t := 45) rfl (fun g45 => ?_) (fun g45 => ?_)
      · refine WL.on rfl rfl ?_
        refine WL.y (Yl.move rfl) rfl ?_
        refine WL.y (Yl.pickT rfl rfl) rfl ?_
        refine WL.y (Yl.nilCheck rfl) rfl ?_
        refine WL.sto (Sto.oneS sz34 rfl rfl (by repeat constructor) rfl (by rw [rwC_len hnl]; omega) rwC_set) (fun _ h => nomatch h) ?_
        refine WL.y (Yl.assign rfl) rfl ?_
        refine WL.nil ?_
        refine WC.region ?_
        refine WL.y (Yl.add rfl rfl (IntWalk.i64_in _ (by omega))) rfl ?_
        refine WL.y (Yl.move rfl) rfl ?_
        refine WL.nil ?_
        rw [g45] at hI2
        exact ⟨rfl, (k + 1, ns.set k (nk : Int), kk), ⟨by dsimp only; omega, by simpa using hI2⟩, by dsimp only; omega, (by repeat' constructor), _, (by repeat' constructor)⟩
      · refine WL.off rfl rfl rfl rfl ?_
        refine WL.y (Yl.pickF rfl rfl) rfl ?_
        refine WL.y (Yl.nilCheck rfl) rfl ?_
        refine WL.sto (Sto.oneS sz34 rfl rfl (by repeat constructor) rfl (by rw [rwC_len hnl]; omega) rwC_set) (fun _ h => nomatch h) ?_
        refine WL.y (Yl.assign rfl) rfl ?_
        refine WL.nil ?_
        refine WC.region ?_
        refine WL.y (Yl.add rfl rfl (IntWalk.i64_in _ (by omega))) rfl ?_
        refine WL.y (Yl.move rfl) rfl ?_
        refine WL.nil ?_
        rw [g45] at hI2
        exact ⟨rfl, (k + 1, ns.set k (nk : Int), false), ⟨by dsimp only; omega, by simpa using hI2⟩, by dsimp only; omega, (by repeat' constructor), _, (by repeat' constructor)⟩
    · refine WC.exit ?_
      refine WC.seq ?_
      obtain rfl : k = 6 := by omega
      have hnl := hI.len
      rw [hps] at hI h7
      have hD := hI.done hpu h7
      refine WC.drawAny (Hs := [blkR b7 70 (rwC p ns)]) mixed (by kernel_rfl) ⟨_, (by repeat' constructor)⟩ ?_
      refine WD.tk 0 rfl (by kernel_rfl) rfl rfl (Yl.loadN ag70 rfl (by repeat constructor) (leBl (by rw [rwC_len hnl]; omega)) (rwC_call hnl)) rfl ?_
      refine WD.tk 1 rfl (by kernel_rfl) rfl rfl (Yl.move rfl) rfl ?_
      refine WD.tk 2 rfl (by kernel_rfl) rfl rfl (Yl.move rfl) rfl ?_
      refine WD.both (t := 52) rfl (fun g52 => ?_) (fun g52 => ?_)
      · refine WD.takeOn 3 rfl (by kernel_rfl) (by kernel_rfl) (by kernel_rfl) rfl rfl rfl rfl (Yl.field fo70_1 rfl) rfl ?_
        refine WD.takeOn 4 rfl (by kernel_rfl) (by kernel_rfl) (by kernel_rfl) rfl rfl rfl rfl (Yl.load on34 rfl (by repeat constructor) (rwC_getD (k := 0) hnl (by decide))) rfl ?_
        refine WD.takeOn 5 rfl (by kernel_rfl) (by kernel_rfl) (by kernel_rfl) rfl rfl rfl rfl (Yl.gtr rfl rfl) rfl ?_
        refine WD.tk 6 rfl (by kernel_rfl) rfl rfl (Yl.pickT rfl rfl) rfl ?_
        refine WD.tk 7 rfl (by kernel_rfl) rfl rfl (Yl.move rfl) rfl ?_
        refine WD.both (t := 57) rfl (fun g57 => ?_) (fun g57 => ?_)
        · refine WD.takeOn 8 rfl (by kernel_rfl) (by kernel_rfl) (by kernel_rfl) rfl rfl rfl rfl (Yl.field fo70_2 rfl) rfl ?_
          refine WD.takeOn 9 rfl (by kernel_rfl) (by kernel_rfl) (by kernel_rfl) rfl rfl rfl rfl (Yl.load on34 rfl (by repeat constructor) (rwC_getD (k := 1) hnl (by decide))) rfl ?_
          refine WD.takeOn 10 rfl (by kernel_rfl) (by kernel_rfl) (by kernel_rfl) rfl rfl rfl rfl (Yl.field fo70_3 rfl) rfl ?_
          refine WD.takeOn 11 rfl (by kernel_rfl) (by kernel_rfl) (by kernel_rfl) rfl rfl rfl rfl (Yl.load on34 rfl (by repeat constructor) (rwC_getD (k := 2) hnl (by decide))) rfl ?_
          refine WD.takeOn 12 rfl (by kernel_rfl) (by kernel_rfl) (by kernel_rfl) rfl rfl rfl rfl (Yl.field fo70_6 rfl) rfl ?_
          refine WD.takeOn 13 rfl (by kernel_rfl) (by kernel_rfl) (by kernel_rfl) rfl rfl rfl rfl (Yl.load on34 rfl (by repeat constructor) (rwC_getD (k := 5) hnl (by decide))) rfl ?_
          refine WD.takeOn 14 rfl (by kernel_rfl) (by kernel_rfl) (by kernel_rfl) rfl rfl rfl rfl (Yl.max3 rfl rfl rfl) rfl ?_
          refine WD.takeOn 15 rfl (by kernel_rfl) (by kernel_rfl) (by kernel_rfl) rfl rfl rfl rfl (Yl.field fo70_1 rfl) rfl ?_
          refine WD.takeOn 16 rfl (by kernel_rfl) (by kernel_rfl) (by kernel_rfl) rfl rfl rfl rfl (Yl.load on34 rfl (by repeat constructor) (rwC_getD (k := 0) hnl (by decide))) rfl ?_
          refine WD.takeOn 17 rfl (by kernel_rfl) (by kernel_rfl) (by kernel_rfl) rfl rfl rfl rfl (Yl.leq rfl rfl) rfl ?_
          refine WD.tk 18 rfl (by kernel_rfl) rfl rfl (Yl.pickT rfl rfl) rfl ?_
          refine WD.one 19 (by kernel_rfl) ?_
          refine WO.sto rfl rfl .no (Sto.agg sz70 rfl rfl (by repeat constructor) (rwC_ones _ _) (rwC_len hnl) (by rfl) (putAll rfl)) ⟨_, (by repeat' constructor)⟩ ?_
          refine WD.tk 20 rfl (by kernel_rfl) rfl rfl (Yl.assign rfl) rfl ?_
          refine WD.done (by kernel_rfl) ?_
          refine WC.ret ?_
          repeat (with_reducible (first | refine peelT ?_ | refine peelB ?_ | refine peelTX ?_ | refine peelBX ?_ | refine peelBN ?_ | refine peelBO rfl ?_))
          rw [g52, g57, Bool.true_and, Bool.true_and] at hD
          exact retC2 (.inr rfl) Tryz.results57 ag70 rfl rfl (by repeat constructor) (rwC_len hnl) fun w' h => ⟨(p, ns, _), hD, rfl, h.sub (by repeat' constructor)⟩
        · refine WD.takeOff 8 rfl (by kernel_rfl) (by kernel_rfl) (by kernel_rfl) rfl rfl rfl rfl rfl rfl ?_
          refine WD.takeOff 9 rfl (by kernel_rfl) (by kernel_rfl) (by kernel_rfl) rfl rfl rfl rfl rfl rfl ?_
          refine WD.takeOff 10 rfl (by kernel_rfl) (by kernel_rfl) (by kernel_rfl) rfl rfl rfl rfl rfl rfl ?_
          refine WD.takeOff 11 rfl (by kernel_rfl) (by kernel_rfl) (by kernel_rfl) rfl rfl rfl rfl rfl rfl ?_
          refine WD.takeOff 12 rfl (by kernel_rfl) (by kernel_rfl) (by kernel_rfl) rfl rfl rfl rfl rfl rfl ?_
          refine WD.takeOff 13 rfl (by kernel_rfl) (by kernel_rfl) (by kernel_rfl) rfl rfl rfl rfl rfl rfl ?_
          refine WD.takeOff 14 rfl (by kernel_rfl) (by kernel_rfl) (by kernel_rfl) rfl rfl rfl rfl rfl rfl ?_
          refine WD.takeOff 15 rfl (by kernel_rfl) (by kernel_rfl) (by kernel_rfl) rfl rfl rfl rfl rfl rfl ?_
          refine WD.takeOff 16 rfl (by kernel_rfl) (by kernel_rfl) (by kernel_rfl) rfl rfl rfl rfl rfl rfl ?_
          refine WD.takeOff 17 rfl (by kernel_rfl) (by kernel_rfl) (by kernel_rfl) rfl rfl rfl rfl rfl rfl ?_
          refine WD.tk 18 rfl (by kernel_rfl) rfl rfl (Yl.pickF rfl rfl) rfl ?_
          refine WD.one 19 (by kernel_rfl) ?_
          refine WO.sto rfl rfl .no (Sto.agg sz70 rfl rfl (by repeat constructor) (rwC_ones _ _) (rwC_len hnl) (by rfl) (putAll rfl)) ⟨_, (by repeat' constructor)⟩ ?_
          refine WD.tk 20 rfl (by kernel_rfl) rfl rfl (Yl.assign rfl) rfl ?_
          refine WD.done (by kernel_rfl) ?_
          refine WC.ret ?_
          repeat (with_reducible (first | refine peelT ?_ | refine peelB ?_ | refine peelTX ?_ | refine peelBX ?_ | refine peelBN ?_ | refine peelBO rfl ?_))
          rw [g52, g57] at hD
          exact retC2 (.inr rfl) Tryz.results57 ag70 rfl rfl (by repeat constructor) (rwC_len hnl) fun w' h => ⟨(p, ns, false), hD, rfl, h.sub (by repeat' constructor)⟩
      · refine WD.takeOff 3 rfl (by kernel_rfl) (by kernel_rfl) (by kernel_rfl) rfl rfl rfl rfl rfl rfl ?_
        refine WD.takeOff 4 rfl (by kernel_rfl) (by kernel_rfl) (by kernel_rfl) rfl rfl rfl rfl rfl rfl ?_
        refine WD.takeOff 5 rfl (by kernel_rfl) (by kernel_rfl) (by kernel_rfl) rfl rfl rfl rfl rfl rfl ?_
        refine WD.tk 6 rfl (by kernel_rfl) rfl rfl (Yl.pickF rfl rfl) rfl ?_
        refine WD.tk 7 rfl (by kernel_rfl) rfl rfl (Yl.move rfl) rfl ?_
        refine WD.takeOff 8 rfl (by kernel_rfl) (by kernel_rfl) (by kernel_rfl) rfl rfl rfl rfl rfl rfl ?_
        refine WD.takeOff 9 rfl (by kernel_rfl) (by kernel_rfl) (by kernel_rfl) rfl rfl rfl rfl rfl rfl ?_
        refine WD.takeOff 10 rfl (by kernel_rfl) (by kernel_rfl) (by kernel_rfl) rfl rfl rfl rfl rfl rfl ?_
        refine WD.takeOff 11 rfl (by kernel_rfl) (by kernel_rfl) (by kernel_rfl) rfl rfl rfl rfl rfl rfl ?_
        refine WD.takeOff 12 rfl (by kernel_rfl) (by kernel_rfl) (by kernel_rfl) rfl rfl rfl rfl rfl rfl ?_
        refine WD.takeOff 13 rfl (by kernel_rfl) (by kernel_rfl) (by kernel_rfl) rfl rfl rfl rfl rfl rfl ?_
        refine WD.takeOff 14 rfl (by kernel_rfl) (by kernel_rfl) (by kernel_rfl) rfl rfl rfl rfl rfl rfl ?_
        refine WD.takeOff 15 rfl (by kernel_rfl) (by kernel_rfl) (by kernel_rfl) rfl rfl rfl rfl rfl rfl ?_
        refine WD.takeOff 16 rfl (by kernel_rfl) (by kernel_rfl) (by kernel_rfl) rfl rfl rfl rfl rfl rfl ?_
        refine WD.takeOff 17 rfl (by kernel_rfl) (by kernel_rfl) (by kernel_rfl) rfl rfl rfl rfl rfl rfl ?_
        refine WD.tk 18 rfl (by kernel_rfl) rfl rfl (Yl.pickF rfl rfl) rfl ?_
        refine WD.one 19 (by kernel_rfl) ?_
        refine WO.sto rfl rfl .no (Sto.agg sz70 rfl rfl (by repeat constructor) (rwC_ones _ _) (rwC_len hnl) (by rfl) (putAll rfl)) ⟨_, (by repeat' constructor)⟩ ?_
        refine WD.tk 20 rfl (by kernel_rfl) rfl rfl (Yl.assign rfl) rfl ?_
        refine WD.done (by kernel_rfl) ?_
        refine WC.ret ?_
        repeat (with_reducible (first | refine peelT ?_ | refine peelB ?_ | refine peelTX ?_ | refine peelBX ?_ | refine peelBN ?_ | refine peelBO rfl ?_))
        rw [g52] at hD
        exact retC2 (.inr rfl) Tryz.results57 ag70 rfl rfl (by repeat constructor) (rwC_len hnl) fun w' h => ⟨(p, ns, false), hD, rfl, h.sub (by repeat' constructor)⟩
end Go.Proofs.YtbgimajbehodnaaGreatDoor
