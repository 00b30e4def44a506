/- Signals: the reference's bytes. -/
import Derived.Test.YtnmeoleahcnnkaaSignA
import Derived.Test.YtnmeoleahcnnkaaRecB
namespace Go.Proofs.Ytnmeoleahcnnkaa
open Go Go.RowKit

theorem rkey_any (ks : List Int) (hl : ks.length = 32) (w : World) (hw : OK w (fpL []) [] w) :
    Fn Try.prog 25 [.agg (ints .u8 ks).toArray] [] w (fun _ : Option Addr × Nat => True) (fun y => .slice y.1 32 y.2) (fun y => [ownR (.slice y.1 32 y.2) 5 1 32 (ints .u8 ks)]) := by
  refine enterF Try.func25 rfl Try.ntmps25 rfl hw ?_
  refine WC.seq ?_
  refine WC.region ?_
  refine WL.to (To.box (cs := ints .u8 ks) rfl rfl) rfl ?_ -- t1
  intro b1
  refine WL.y (Yl.assign rfl) rfl ?_ -- t2
  refine WL.nil ?_
  refine WC.seq ?_
  refine WC.region ?_
  refine WL.y (Yl.assign rfl) rfl ?_ -- t3
  refine WL.nil ?_
  refine WC.seq ?_
  refine WC.seq ?_
  refine WC.region ?_
  refine WL.y (Yl.assign rfl) rfl ?_ -- t4
  refine WL.nil ?_
  refine WC.block ?_
  refine WC.view (fun w h => h.addNil 5 1) ?_
  refine WC.loop (α := Nat × (Option Addr × Nat)) (fun p => [(1, .pointer (some ⟨b1, 0, none⟩)), (3, .slice p.2.1 p.1 p.2.2), (4, .int .i64 (p.1 : Int))]) (fun p => [ownR (.slice p.2.1 p.1 p.2.2) 5 1 p.1 (ints .u8 (ks.take p.1)), blkR b1 31 (ints .u8 ks)]) (fun p => p.1 ≤ 32) (fun p => 32 - p.1) (0, none, 0) (Nat.zero_le _) ⟨(by repeat (first | exact Sub.nil | refine Sub.cons rfl ?_)), _, (by repeat (first | exact TakeL.nil | (apply TakeL.cons; · repeat (first | exact Take1.head | apply Take1.tail))))⟩ ?_
  rintro ⟨j, ao, c⟩ hj
  dsimp only at hj ⊢
  refine WC.seq ?_
  refine WC.seq ?_
  refine WC.region ?_
  refine WL.y (Yl.move rfl) rfl ?_ -- t5
  refine WL.y (Yl.lss rfl rfl) rfl ?_ -- t6
  refine WL.nil ?_
  refine WC.condD rfl (fun g6 => ?_) (fun g6 => ?_)
  · refine WC.skip ?_
    refine WC.seq ?_
    refine WC.block ?_
    refine WC.region ?_
    refine WL.y (Yl.move rfl) rfl ?_ -- t9
    refine WL.y (Yl.move rfl) rfl ?_ -- t10
    refine WL.y (Yl.indexA un31 sz5 rfl rfl rfl (by omega)) rfl ?_ -- t11
    refine WL.y (Yl.load on5 rfl (by repeat (first | exact Take1.head | apply Take1.tail)) (show _ = some (.int .u8 (ks.getD j 0)) by rw [show 0 + j * 1 = j by omega]; exact ints_get .u8 ks j (by omega))) rfl ?_ -- t12
    refine WL.to (To.buildSlice (vs := [.int .u8 (ks.getD j 0)]) un22 zs5 rfl rfl (by simp [Value.cells]) (by decide) (by decide)) rfl ?_ -- t13
    intro b13
    refine WL.to (To.append sl22 rfl rfl (by repeat (first | exact Take1.head | apply Take1.tail)) (Reads.of (RdOf.blk (cs := [.int .u8 (ks.getD j 0)]) (cs' := ints .u8 [ks.getD j 0]) (Nat.le_refl _) (by unfold maxLen; omega) (by simp) rfl) (by repeat (first | exact Take1.head | apply Take1.tail))) (ints_one _ _) rfl (by rw [ints_append, ← take_getD (show j < ks.length by omega)]) (by unfold maxLen; omega) (by omega)) rfl ?_ -- t14
    rintro ⟨⟨ao14, c14⟩, hc14⟩
    dsimp only at hc14 ⊢
    refine WL.y (Yl.assign rfl) rfl ?_ -- t3
    refine WL.nil ?_
    refine WC.region ?_
    refine WL.y (Yl.move rfl) rfl ?_ -- t7
    refine WL.y (Yl.add rfl rfl (IntWalk.i64_in _ (by omega))) rfl ?_ -- t8
    refine WL.y (Yl.assign rfl) rfl ?_ -- t4
    refine WL.nil ?_
    exact ⟨rfl, (j + 1, ao14, c14), by dsimp only; omega, by dsimp only; omega, (by repeat (first | exact Sub.nil | refine Sub.cons rfl ?_)), _, (by repeat (first | exact TakeL.nil | (apply TakeL.cons; · repeat (first | exact Take1.head | apply Take1.tail))))⟩
  · refine WC.exit ?_
    refine WC.seq ?_
    refine WC.region ?_
    refine WL.y (Yl.move rfl) rfl ?_ -- t15
    refine WL.y (Yl.assign rfl) rfl ?_ -- t2
    refine WL.nil ?_
    refine WC.ret ?_
    repeat (first | (with_reducible refine peelT ?_) | (with_reducible refine peelB ?_) | (with_reducible refine peelTX ?_) | (with_reducible refine peelBX ?_) | (with_reducible refine peelBN ?_) | (with_reducible refine peelBO rfl ?_))
    have hj2 : j = 32 := by omega
    subst hj2
    exact ret1 (.inr rfl) Try.results25 rfl fun w' h => ⟨(ao, c), trivial, rfl, by rw [List.take_of_length_le (by omega)] at h; exact h.sub (by repeat (first | exact TakeL.nil | (apply TakeL.cons; · repeat (first | exact Take1.head | apply Take1.tail))))⟩

theorem ofKey_any (bs : List Int) (v : Value) (hl : 32 ≤ bs.length) (w : World) (hx : RdS w (fpL []) v 1 bs.length (ints .u8 bs)) (hw : OK w (fpL []) [] w) :
    Fn Try.prog 28 [v] [] w (fun _ : Unit => True) (fun _ => .agg (ints .u8 (bs.take 32)).toArray) (fun _ => []) := by
  obtain ⟨al, cl, rfl, hcl, hml⟩ := hx.rd.form
  refine enterF Try.func28 rfl Try.ntmps28 rfl hw ?_
  refine WC.seq ?_
  refine WC.region ?_
  refine WL.to (To.alloc zr31 rfl) rfl ?_ -- t2
  intro b2
  refine WL.nil ?_
  refine WC.seq ?_
  refine WC.region ?_
  refine WL.to (To.alloc zr31 rfl) rfl ?_ -- t3
  intro b3
  refine WL.nil ?_
  refine WC.seq ?_
  refine WC.seq ?_
  refine WC.region ?_
  refine WL.y (Yl.assign rfl) rfl ?_ -- t4
  refine WL.nil ?_
  refine WC.block ?_
  refine WC.loop (α := Nat) (fun j => [(0, .slice al bs.length cl), (2, .pointer (some ⟨b2, 0, none⟩)), (3, .pointer (some ⟨b3, 0, none⟩)), (4, .int .i64 (j : Int))]) (fun j => [blkR b3 31 (ints .u8 (bs.take j ++ List.replicate (32 - j) 0)), blkR b2 31 (List.replicate 32 (.int .u8 0))]) (fun j => j ≤ 32) (fun j => 32 - j) 0 (Nat.zero_le _) ⟨(by repeat (first | exact Sub.nil | refine Sub.cons rfl ?_)), _, (by repeat (first | exact TakeL.nil | (apply TakeL.cons; · repeat (first | exact Take1.head | apply Take1.tail))))⟩ ?_
  intro j hj
  have hlen : (ints .u8 (bs.take j ++ List.replicate (32 - j) 0)).length = 32 := by simp [ints]; omega
  refine WC.seq ?_
  refine WC.seq ?_
  refine WC.region ?_
  refine WL.y (Yl.move rfl) rfl ?_ -- t5
  refine WL.y (Yl.lss rfl rfl) rfl ?_ -- t6
  refine WL.nil ?_
  refine WC.condD rfl (fun g6 => ?_) (fun g6 => ?_)
  · refine WC.skip ?_
    refine WC.seq ?_
    refine WC.block ?_
    refine WC.region ?_
    refine WL.y (Yl.move rfl) rfl ?_ -- t9
    refine WL.y (Yl.move rfl) rfl ?_ -- t10
    refine WL.y (Yl.move rfl) rfl ?_ -- t11
    refine WL.y (Yl.index un22 sz5 rfl rfl (Reads.s hx) rfl (by omega)) rfl ?_ -- t12
    refine WL.y (Yl.loadE on5 rfl (Reads.s hx) (ints_get .u8 bs j (by omega))) rfl ?_ -- t13
    refine WL.y (Yl.indexA un31 sz5 rfl rfl rfl (by omega)) rfl ?_ -- t14
    refine WL.sto (Sto.one sz5 rfl rfl (by repeat (first | exact Take1.head | apply Take1.tail)) rfl (cs' := ints .u8 (bs.take (j + 1) ++ List.replicate (32 - (j + 1)) 0)) (ltB (by rw [hlen]; omega)) (ofId_step (by omega) (by omega))) (fun _ h => nomatch h) ?_
    refine WL.nil ?_
    refine WC.region ?_
    refine WL.y (Yl.move rfl) rfl ?_ -- t7
    refine WL.y (Yl.add rfl rfl (IntWalk.i64_in _ (by omega))) rfl ?_ -- t8
    refine WL.y (Yl.assign rfl) rfl ?_ -- t4
    refine WL.nil ?_
    exact ⟨rfl, j + 1, by omega, by omega, (by repeat (first | exact Sub.nil | refine Sub.cons rfl ?_)), _, (by repeat (first | exact TakeL.nil | (apply TakeL.cons; · repeat (first | exact Take1.head | apply Take1.tail))))⟩
  · refine WC.exit ?_
    refine WC.seq ?_
    refine WC.region ?_
    refine WL.y (Yl.loadN ag31 rfl (by repeat (first | exact Take1.head | apply Take1.tail)) (leB (by rw [hlen]; omega)) (show _ = ints .u8 (bs.take 32) by rw [List.drop_zero, List.take_of_length_le (by rw [hlen]; omega), show j = 32 by omega]; simp)) rfl ?_ -- t15
    refine WL.sto (Sto.agg sz31 rfl rfl (by repeat (first | exact Take1.head | apply Take1.tail)) (ints_one _ _) (by simp [ints]; omega) (by rfl) (he := (by rfl))) (fun _ h => nomatch h) ?_ -- st 2
    refine WL.nil ?_
    refine WC.ret ?_
    repeat (first | (with_reducible refine peelT ?_) | (with_reducible refine peelB ?_) | (with_reducible refine peelTX ?_) | (with_reducible refine peelBX ?_) | (with_reducible refine peelBN ?_) | (with_reducible refine peelBO rfl ?_))
    refine retC1 (.inr rfl) Try.results28 ag31 rfl (by repeat (first | exact Take1.head | apply Take1.tail)) (by simp [ints]; omega) fun w' h => ⟨(), trivial, ?_, h.sub (by repeat (first | exact TakeL.nil | (apply TakeL.cons; · repeat (first | exact Take1.head | apply Take1.tail))))⟩
    simp [List.drop_of_length_le]
/-- Its bytes. -/
def sigP (s : Sg) : List Int := if s.kind = 1 then [s.ca, s.cd, s.ce] ++ s.key else if s.kind = 2 then s.key else if s.kind = 3 then be s.n 4 ++ be s.data.length 2 ++ s.data else if s.kind = 5 then [s.rs] else []
def sigB (s : Sg) : List Int := [s.kind] ++ s.id ++ sigP s

theorem sigB_1 {s : Sg} (h : s.ok) (k : s.kind = 1) : (sigB s).length = 17 + 3 + 32 ∧ sigB s = [s.kind] ++ s.id ++ [s.ca, s.cd, s.ce] ++ s.key := by
  have e : sigB s = [s.kind] ++ s.id ++ [s.ca, s.cd, s.ce] ++ s.key := by unfold sigB sigP; rw [if_pos k]; simp
  exact ⟨by rw [e]; simp [h.il, h.kl], e⟩
theorem sigB_2 {s : Sg} (h : s.ok) (k : s.kind = 2) : (sigB s).length = 17 + 32 ∧ sigB s = [s.kind] ++ s.id ++ s.key := by
  have e : sigB s = [s.kind] ++ s.id ++ s.key := by unfold sigB sigP; rw [if_neg (by omega), if_pos k]
  exact ⟨by rw [e]; simp [h.il, h.kl], e⟩
theorem sigB_3 {s : Sg} (h : s.ok) (k : s.kind = 3) : (sigB s).length = 17 + 4 + 2 + s.data.length ∧ sigB s = [s.kind] ++ s.id ++ be s.n 4 ++ be s.data.length 2 ++ s.data := by
  have e : sigB s = [s.kind] ++ s.id ++ be s.n 4 ++ be s.data.length 2 ++ s.data := by unfold sigB sigP; rw [if_neg (by omega), if_neg (by omega), if_pos k]; simp
  exact ⟨by rw [e]; simp [h.il, be_len]; omega, e⟩
theorem sigB_5 {s : Sg} (h : s.ok) (k : s.kind = 5) : (sigB s).length = 17 + 1 ∧ sigB s = [s.kind] ++ s.id ++ [s.rs] := by
  have e : sigB s = [s.kind] ++ s.id ++ [s.rs] := by unfold sigB sigP; rw [if_neg (by omega), if_neg (by omega), if_neg (by omega), if_pos k]
  exact ⟨by rw [e]; simp [h.il], e⟩
theorem sigB_0 {s : Sg} (h : s.ok) (k1 : ¬s.kind = 1) (k2 : ¬s.kind = 2) (k3 : ¬s.kind = 3) (k5 : ¬s.kind = 5) : (sigB s).length = 17 ∧ sigB s = [s.kind] ++ s.id := by
  have e : sigB s = [s.kind] ++ s.id := by unfold sigB sigP; rw [if_neg k1, if_neg k2, if_neg k3, if_neg k5]; simp
  exact ⟨by rw [e]; simp [h.il], e⟩

theorem rsbytes_any (s : Sg) (hs : s.ok) (hd : s.data.length ≤ 100000) (w : World) (xs : RdS w (fpL []) (.slice s.da s.data.length s.dc) 1 s.data.length (ints .u8 s.data)) (hw : OK w (fpL []) [] w) :
    Fn Try.prog 12 [.agg s.cells.toArray] [] w (fun _ : Option Addr × Nat => True) (fun y => .slice y.1 (sigB s).length y.2) (fun y => [ownR (.slice y.1 (sigB s).length y.2) 5 1 (sigB s).length (ints .u8 (sigB s))]) := by
  refine enterF Try.func12 rfl Try.ntmps12 rfl hw ?_
  refine WC.seq ?_
  refine WC.region ?_
  refine WL.to (To.box (cs := s.cells) rfl rfl) rfl ?_ -- t1
  intro b1
  refine WL.y (Yl.assign rfl) rfl ?_ -- t2
  refine WL.nil ?_
  refine WC.midE (α := Option Addr × Nat) (fun z => [(3, .slice z.1 17 z.2)]) (fun z => [ownR (.slice z.1 17 z.2) 5 1 17 (ints .u8 ([s.kind] ++ s.id)), blkR b1 34 s.cells]) (fun _ => True) ?_ ?_
  · refine WC.drawAny (Hs := [blkR b1 34 s.cells]) mixed (by kernel_rfl) ⟨_, (by repeat (first | exact TakeL.nil | (apply TakeL.cons; · repeat (first | exact Take1.head | apply Take1.tail))))⟩ ?_
    refine WD.take 0 rfl (by kernel_rfl) (by kernel_rfl) (by kernel_rfl) rfl rfl (Yl.field fo34_0 rfl) rfl ?_ -- t4
    refine WD.take 1 rfl (by kernel_rfl) (by kernel_rfl) (by kernel_rfl) rfl rfl (Yl.load on5 rfl (by repeat (first | exact Take1.head | apply Take1.tail)) Sg.c0) rfl ?_ -- t5
    refine WD.take 3 rfl (by kernel_rfl) (by kernel_rfl) (by kernel_rfl) rfl rfl (Yl.field fo34_1 rfl) rfl ?_ -- t7
    refine WD.take 4 rfl (by kernel_rfl) (by kernel_rfl) (by kernel_rfl) rfl rfl (Yl.loadN ag27 rfl (by repeat (first | exact Take1.head | apply Take1.tail)) (fitLe (by rw [Sg.len hs]; omega)) (Sg.cid hs)) rfl ?_ -- t8
    refine WD.two 2 5 (by kernel_rfl) ?_ ?_
    · refine WO.to rfl rfl .no (To.buildSlice (vs := [.int .u8 s.kind]) un22 zs5 rfl rfl (by simp [Value.cells]) (by decide) (by decide)) rfl (fun _ => ⟨_, (by repeat (first | exact TakeL.nil | (apply TakeL.cons; · repeat (first | exact Take1.head | apply Take1.tail))))⟩) ?_ -- t6
      intro b6
      refine WD.view (fun w h => h.blkOwn (b := b6) (size := 1) (n := 1) (by repeat (first | exact Take1.head | apply Take1.tail)) (by unfold maxLen; omega) rfl) ?_
      refine WD.one 5 (by kernel_rfl) ?_
      refine WO.callC (xs := [.tmp 8]) (cap := []) rfl .no rfl rfl en24 (by repeat (first | exact TakeL.nil | (apply TakeL.cons; · repeat (first | exact Take1.head | apply Take1.tail)))) (fun w hw => rid_any s.id hs.il w hw.left.here) rfl (fun _ => ⟨_, (by repeat (first | exact TakeL.nil | (apply TakeL.cons; · repeat (first | exact Take1.head | apply Take1.tail))))⟩) ?_ -- t9 hailer/hailerref09.Id
      intro y9 _
      refine WD.one 6 (by kernel_rfl) ?_
      refine WO.to rfl rfl .no (To.append sl22 rfl rfl (by repeat (first | exact Take1.head | apply Take1.tail)) (Reads.own (by repeat (first | exact Take1.head | apply Take1.tail))) (ints_one _ _) rfl (show [Value.int .u8 s.kind] ++ ints .u8 s.id = ints .u8 ([s.kind] ++ s.id) from rfl) (by unfold maxLen; omega) (by omega)) rfl (fun _ => ⟨_, (by repeat (first | exact TakeL.nil | (apply TakeL.cons; · repeat (first | exact Take1.head | apply Take1.tail))))⟩) ?_ -- t10
      rintro ⟨⟨ao10, c10⟩, hc10⟩
      dsimp only at hc10 ⊢
      refine WD.take 7 rfl (by kernel_rfl) (by kernel_rfl) (by kernel_rfl) rfl rfl (Yl.assign rfl) rfl ?_ -- t3
      refine WD.done (by kernel_rfl) ?_
      exact ⟨rfl, (ao10, c10), trivial, (by repeat (first | exact Sub.nil | refine Sub.cons rfl ?_)), (by repeat (first | exact Sub.nil | refine Sub.cons rfl ?_)), _, (by repeat (first | exact TakeL.nil | (apply TakeL.cons; · repeat (first | exact Take1.head | apply Take1.tail))))⟩
    · refine WO.callC (xs := [.tmp 8]) (cap := []) rfl .no rfl rfl en24 (by repeat (first | exact TakeL.nil | (apply TakeL.cons; · repeat (first | exact Take1.head | apply Take1.tail)))) (fun w hw => rid_any s.id hs.il w hw.left.here) rfl (fun _ => ⟨_, (by repeat (first | exact TakeL.nil | (apply TakeL.cons; · repeat (first | exact Take1.head | apply Take1.tail))))⟩) ?_ -- t9 hailer/hailerref09.Id
      intro y9 _
      refine WD.one 2 (by kernel_rfl) ?_
      refine WO.to rfl rfl .no (To.buildSlice (vs := [.int .u8 s.kind]) un22 zs5 rfl rfl (by simp [Value.cells]) (by decide) (by decide)) rfl (fun _ => ⟨_, (by repeat (first | exact TakeL.nil | (apply TakeL.cons; · repeat (first | exact Take1.head | apply Take1.tail))))⟩) ?_ -- t6
      intro b6
      refine WD.view (fun w h => h.blkOwn (b := b6) (size := 1) (n := 1) (by repeat (first | exact Take1.head | apply Take1.tail)) (by unfold maxLen; omega) rfl) ?_
      refine WD.one 6 (by kernel_rfl) ?_
      refine WO.to rfl rfl .no (To.append sl22 rfl rfl (by repeat (first | exact Take1.head | apply Take1.tail)) (Reads.own (by repeat (first | exact Take1.head | apply Take1.tail))) (ints_one _ _) rfl (show [Value.int .u8 s.kind] ++ ints .u8 s.id = ints .u8 ([s.kind] ++ s.id) from rfl) (by unfold maxLen; omega) (by omega)) rfl (fun _ => ⟨_, (by repeat (first | exact TakeL.nil | (apply TakeL.cons; · repeat (first | exact Take1.head | apply Take1.tail))))⟩) ?_ -- t10
      rintro ⟨⟨ao10, c10⟩, hc10⟩
      dsimp only at hc10 ⊢
      refine WD.take 7 rfl (by kernel_rfl) (by kernel_rfl) (by kernel_rfl) rfl rfl (Yl.assign rfl) rfl ?_ -- t3
      refine WD.done (by kernel_rfl) ?_
      exact ⟨rfl, (ao10, c10), trivial, (by repeat (first | exact Sub.nil | refine Sub.cons rfl ?_)), (by repeat (first | exact Sub.nil | refine Sub.cons rfl ?_)), _, (by repeat (first | exact TakeL.nil | (apply TakeL.cons; · repeat (first | exact Take1.head | apply Take1.tail))))⟩
  · rintro ⟨ao3, c3⟩ _
    refine WC.seq ?_
    refine WC.seq ?_
    refine WC.region ?_
    refine WL.y (Yl.field fo34_0 rfl) rfl ?_ -- t11
    refine WL.y (Yl.load on5 rfl (by repeat (first | exact Take1.head | apply Take1.tail)) Sg.c0) rfl ?_ -- t12
    refine WL.nil ?_
    refine WC.block ?_
    refine WC.seq ?_
    refine WC.region ?_
    refine WL.y (Yl.eql rfl rfl) rfl ?_ -- t14
    refine WL.y (Yl.assign rfl) rfl ?_ -- t13
    refine WL.nil ?_
    refine WC.condD rfl (fun g13 => ?_) (fun g13 => ?_)
    · refine WC.drawAny (Hs := [blkR b1 34 s.cells]) mixed (by kernel_rfl) ⟨_, (by repeat (first | exact TakeL.nil | (apply TakeL.cons; · repeat (first | exact Take1.head | apply Take1.tail))))⟩ ?_
      refine WD.take 0 rfl (by kernel_rfl) (by kernel_rfl) (by kernel_rfl) rfl rfl (Yl.move rfl) rfl ?_ -- t15
      refine WD.take 1 rfl (by kernel_rfl) (by kernel_rfl) (by kernel_rfl) rfl rfl (Yl.field fo34_2 rfl) rfl ?_ -- t16
      refine WD.take 2 rfl (by kernel_rfl) (by kernel_rfl) (by kernel_rfl) rfl rfl (Yl.field fo29_0 rfl) rfl ?_ -- t17
      refine WD.take 3 rfl (by kernel_rfl) (by kernel_rfl) (by kernel_rfl) rfl rfl (Yl.load on5 rfl (by repeat (first | exact Take1.head | apply Take1.tail)) (Sg.c17 hs)) rfl ?_ -- t18
      refine WD.take 4 rfl (by kernel_rfl) (by kernel_rfl) (by kernel_rfl) rfl rfl (Yl.field fo34_2 rfl) rfl ?_ -- t19
      refine WD.take 5 rfl (by kernel_rfl) (by kernel_rfl) (by kernel_rfl) rfl rfl (Yl.field fo29_1 rfl) rfl ?_ -- t20
      refine WD.take 6 rfl (by kernel_rfl) (by kernel_rfl) (by kernel_rfl) rfl rfl (Yl.load on5 rfl (by repeat (first | exact Take1.head | apply Take1.tail)) (Sg.c18 hs)) rfl ?_ -- t21
      refine WD.take 7 rfl (by kernel_rfl) (by kernel_rfl) (by kernel_rfl) rfl rfl (Yl.field fo34_3 rfl) rfl ?_ -- t22
      refine WD.take 8 rfl (by kernel_rfl) (by kernel_rfl) (by kernel_rfl) rfl rfl (Yl.load on5 rfl (by repeat (first | exact Take1.head | apply Take1.tail)) (Sg.c19 hs)) rfl ?_ -- t23
      refine WD.take 11 rfl (by kernel_rfl) (by kernel_rfl) (by kernel_rfl) rfl rfl (Yl.field fo34_4 rfl) rfl ?_ -- t26
      refine WD.take 12 rfl (by kernel_rfl) (by kernel_rfl) (by kernel_rfl) rfl rfl (Yl.loadN ag31 rfl (by repeat (first | exact Take1.head | apply Take1.tail)) (fitLe (by rw [Sg.len hs]; omega)) (Sg.ckey hs)) rfl ?_ -- t27
      refine WD.one 9 (by kernel_rfl) ?_
      refine WO.to rfl rfl .no (To.buildSlice (vs := [.int .u8 s.ca, .int .u8 s.cd, .int .u8 s.ce]) un22 zs5 rfl rfl (by simp [Value.cells]) (by decide) (by decide)) rfl (fun _ => ⟨_, (by repeat (first | exact TakeL.nil | (apply TakeL.cons; · repeat (first | exact Take1.head | apply Take1.tail))))⟩) ?_ -- t24
      intro b24
      refine WD.one 10 (by kernel_rfl) ?_
      refine WO.to rfl rfl .no (To.append sl22 rfl rfl (by repeat (first | exact Take1.head | apply Take1.tail)) (Reads.of (RdOf.blk (cs := [.int .u8 s.ca, .int .u8 s.cd, .int .u8 s.ce]) (cs' := ints .u8 [s.ca, s.cd, s.ce]) (Nat.le_refl _) (by unfold maxLen; omega) (by simp) rfl) (by repeat (first | exact Take1.head | apply Take1.tail))) (ints_one _ _) rfl (ints_append _ _ _) (by unfold maxLen; omega) (by omega)) rfl (fun _ => ⟨_, (by repeat (first | exact TakeL.nil | (apply TakeL.cons; · repeat (first | exact Take1.head | apply Take1.tail))))⟩) ?_ -- t25
      rintro ⟨⟨ao25, c25⟩, hc25⟩
      dsimp only at hc25 ⊢
      refine WD.one 13 (by kernel_rfl) ?_
      refine WO.callC (xs := [.tmp 27]) (cap := []) rfl .no rfl rfl en25 (by repeat (first | exact TakeL.nil | (apply TakeL.cons; · repeat (first | exact Take1.head | apply Take1.tail)))) (fun w hw => rkey_any s.key hs.kl w hw.left.here) rfl (fun _ => ⟨_, (by repeat (first | exact TakeL.nil | (apply TakeL.cons; · repeat (first | exact Take1.head | apply Take1.tail))))⟩) ?_ -- t28 hailer/hailerref09.Key
      rintro ⟨a28, c28⟩ -
      refine WD.one 14 (by kernel_rfl) ?_
      refine WO.to rfl rfl .no (To.append sl22 rfl rfl (by repeat (first | exact Take1.head | apply Take1.tail)) (Reads.own (by repeat (first | exact Take1.head | apply Take1.tail))) (ints_one _ _) rfl (ints_append _ _ _) (by unfold maxLen; omega) (by omega)) rfl (fun _ => ⟨_, (by repeat (first | exact TakeL.nil | (apply TakeL.cons; · repeat (first | exact Take1.head | apply Take1.tail))))⟩) ?_ -- t29
      rintro ⟨⟨ao29, c29⟩, hc29⟩
      dsimp only at hc29 ⊢
      refine WD.take 15 rfl (by kernel_rfl) (by kernel_rfl) (by kernel_rfl) rfl rfl (Yl.assign rfl) rfl ?_ -- t3
      refine WD.done (by kernel_rfl) ?_
      refine WC.seq ?_
      refine WC.region ?_
      refine WL.y (Yl.move rfl) rfl ?_ -- t61
      refine WL.y (Yl.assign rfl) rfl ?_ -- t2
      refine WL.nil ?_
      refine WC.ret ?_
      repeat (first | (with_reducible refine peelT ?_) | (with_reducible refine peelB ?_) | (with_reducible refine peelTX ?_) | (with_reducible refine peelBX ?_) | (with_reducible refine peelBN ?_) | (with_reducible refine peelBO rfl ?_))
      exact ret1 (.inr rfl) Try.results12 rfl fun w' h => ⟨(ao29, c29), trivial, by rw [sigB_1 hs g13 |>.1], by rw [(sigB_1 hs g13).1, (sigB_1 hs g13).2]; exact h.sub (by repeat (first | exact TakeL.nil | (apply TakeL.cons; · repeat (first | exact Take1.head | apply Take1.tail))))⟩
    · refine WC.seq ?_
      refine WC.region ?_
      refine WL.y (Yl.eql rfl rfl) rfl ?_ -- t31
      refine WL.y (Yl.assign rfl) rfl ?_ -- t30
      refine WL.nil ?_
      refine WC.condD rfl (fun g30 => ?_) (fun g30 => ?_)
      · refine WC.region ?_
        refine WL.y (Yl.move rfl) rfl ?_ -- t32
        refine WL.y (Yl.field fo34_4 rfl) rfl ?_ -- t33
        refine WL.y (Yl.loadN ag31 rfl (by repeat (first | exact Take1.head | apply Take1.tail)) (fitLe (by rw [Sg.len hs]; omega)) (Sg.ckey hs)) rfl ?_ -- t34
        refine WL.callC (xs := [.tmp 34]) (cap := []) rfl rfl en25 (by repeat (first | exact TakeL.nil | (apply TakeL.cons; · repeat (first | exact Take1.head | apply Take1.tail)))) (fun w hw => rkey_any s.key hs.kl w hw.left.here) rfl ?_ -- t35 hailer/hailerref09.Key
        rintro ⟨a35, c35⟩ -
        refine WL.to (To.append sl22 rfl rfl (by repeat (first | exact Take1.head | apply Take1.tail)) (Reads.own (by repeat (first | exact Take1.head | apply Take1.tail))) (ints_one _ _) rfl (ints_append _ _ _) (by unfold maxLen; omega) (by omega)) rfl ?_ -- t36
        rintro ⟨⟨ao36, c36⟩, hc36⟩
        dsimp only at hc36 ⊢
        refine WL.y (Yl.assign rfl) rfl ?_ -- t3
        refine WL.nil ?_
        refine WC.seq ?_
        refine WC.region ?_
        refine WL.y (Yl.move rfl) rfl ?_ -- t61
        refine WL.y (Yl.assign rfl) rfl ?_ -- t2
        refine WL.nil ?_
        refine WC.ret ?_
        repeat (first | (with_reducible refine peelT ?_) | (with_reducible refine peelB ?_) | (with_reducible refine peelTX ?_) | (with_reducible refine peelBX ?_) | (with_reducible refine peelBN ?_) | (with_reducible refine peelBO rfl ?_))
        exact ret1 (.inr rfl) Try.results12 rfl fun w' h => ⟨(ao36, c36), trivial, by rw [sigB_2 hs g30 |>.1], by rw [(sigB_2 hs g30).1, (sigB_2 hs g30).2]; exact h.sub (by repeat (first | exact TakeL.nil | (apply TakeL.cons; · repeat (first | exact Take1.head | apply Take1.tail))))⟩
      · refine WC.seq ?_
        refine WC.region ?_
        refine WL.y (Yl.eql rfl rfl) rfl ?_ -- t38
        refine WL.y (Yl.assign rfl) rfl ?_ -- t37
        refine WL.nil ?_
        refine WC.condD rfl (fun g37 => ?_) (fun g37 => ?_)
        · refine WC.drawAny (Hs := [blkR b1 34 s.cells]) mixed (by kernel_rfl) ⟨_, (by repeat (first | exact TakeL.nil | (apply TakeL.cons; · repeat (first | exact Take1.head | apply Take1.tail))))⟩ ?_
          refine WD.take 0 rfl (by kernel_rfl) (by kernel_rfl) (by kernel_rfl) rfl rfl (Yl.move rfl) rfl ?_ -- t39
          refine WD.take 1 rfl (by kernel_rfl) (by kernel_rfl) (by kernel_rfl) rfl rfl (Yl.field fo34_5 rfl) rfl ?_ -- t40
          refine WD.take 2 rfl (by kernel_rfl) (by kernel_rfl) (by kernel_rfl) rfl rfl (Yl.load on32 rfl (by repeat (first | exact Take1.head | apply Take1.tail)) (Sg.c52 hs)) rfl ?_ -- t41
          refine WD.take 3 rfl (by kernel_rfl) (by kernel_rfl) (by kernel_rfl) rfl rfl (Yl.conv un32 un65 rfl (u64_in _ (by have := hs.n; omega))) rfl ?_ -- t42
          refine WD.take 6 rfl (by kernel_rfl) (by kernel_rfl) (by kernel_rfl) rfl rfl (Yl.field fo34_6 rfl) rfl ?_ -- t45
          refine WD.take 7 rfl (by kernel_rfl) (by kernel_rfl) (by kernel_rfl) rfl rfl (Yl.load on22 rfl (by repeat (first | exact Take1.head | apply Take1.tail)) (Sg.c53 hs)) rfl ?_ -- t46
          refine WD.take 8 rfl (by kernel_rfl) (by kernel_rfl) (by kernel_rfl) rfl rfl (Yl.len un22 rfl) rfl ?_ -- t47
          refine WD.take 9 rfl (by kernel_rfl) (by kernel_rfl) (by kernel_rfl) rfl rfl (Yl.conv un3 un65 rfl (u64_in _ (by omega))) rfl ?_ -- t48
          refine WD.take 12 rfl (by kernel_rfl) (by kernel_rfl) (by kernel_rfl) rfl rfl (Yl.field fo34_6 rfl) rfl ?_ -- t51
          refine WD.take 13 rfl (by kernel_rfl) (by kernel_rfl) (by kernel_rfl) rfl rfl (Yl.load on22 rfl (by repeat (first | exact Take1.head | apply Take1.tail)) (Sg.c53 hs)) rfl ?_ -- t52
          refine WD.one 4 (by kernel_rfl) ?_
          refine WO.callC (xs := [.tmp 42, _]) (cap := []) rfl .no rfl rfl en26 (by repeat (first | exact TakeL.nil | (apply TakeL.cons; · repeat (first | exact Take1.head | apply Take1.tail)))) (fun w hw => rnumber_any s.n 4 ⟨hs.n.1, by have := hs.n; omega⟩ (by omega) w hw.left.here) rfl (fun _ => ⟨_, (by repeat (first | exact TakeL.nil | (apply TakeL.cons; · repeat (first | exact Take1.head | apply Take1.tail))))⟩) ?_ -- t43 hailer/hailerref09.Number
          intro b43 _
          refine WD.one 5 (by kernel_rfl) ?_
          refine WO.to rfl rfl .no (To.append sl22 rfl rfl (by repeat (first | exact Take1.head | apply Take1.tail)) (Reads.own (by repeat (first | exact Take1.head | apply Take1.tail))) (ints_one _ _) rfl (ints_append _ _ _) (by unfold maxLen; omega) (by omega)) rfl (fun _ => ⟨_, (by repeat (first | exact TakeL.nil | (apply TakeL.cons; · repeat (first | exact Take1.head | apply Take1.tail))))⟩) ?_ -- t44
          rintro ⟨⟨ao44, c44⟩, hc44⟩
          dsimp only at hc44 ⊢
          refine WD.one 10 (by kernel_rfl) ?_
          refine WO.callC (xs := [.tmp 48, _]) (cap := []) rfl .no rfl rfl en26 (by repeat (first | exact TakeL.nil | (apply TakeL.cons; · repeat (first | exact Take1.head | apply Take1.tail)))) (fun w hw => rnumber_any s.data.length 2 ⟨by omega, by omega⟩ (by omega) w hw.left.here) rfl (fun _ => ⟨_, (by repeat (first | exact TakeL.nil | (apply TakeL.cons; · repeat (first | exact Take1.head | apply Take1.tail))))⟩) ?_ -- t49 hailer/hailerref09.Number
          intro b49 _
          refine WD.one 11 (by kernel_rfl) ?_
          refine WO.to rfl rfl .no (To.append sl22 rfl rfl (by repeat (first | exact Take1.head | apply Take1.tail)) (Reads.own (by repeat (first | exact Take1.head | apply Take1.tail))) (ints_one _ _) rfl (ints_append _ _ _) (by unfold maxLen; omega) (by omega)) rfl (fun _ => ⟨_, (by repeat (first | exact TakeL.nil | (apply TakeL.cons; · repeat (first | exact Take1.head | apply Take1.tail))))⟩) ?_ -- t50
          rintro ⟨⟨ao50, c50⟩, hc50⟩
          dsimp only at hc50 ⊢
          refine WD.one 14 (by kernel_rfl) ?_
          refine WO.to rfl rfl .no (To.append sl22 rfl rfl (by repeat (first | exact Take1.head | apply Take1.tail)) (Reads.s xs) (ints_one _ _) rfl (ints_append _ _ _) (by unfold maxLen; omega) (by omega)) rfl (fun _ => ⟨_, (by repeat (first | exact TakeL.nil | (apply TakeL.cons; · repeat (first | exact Take1.head | apply Take1.tail))))⟩) ?_ -- t53
          rintro ⟨⟨ao53, c53⟩, hc53⟩
          dsimp only at hc53 ⊢
          refine WD.take 15 rfl (by kernel_rfl) (by kernel_rfl) (by kernel_rfl) rfl rfl (Yl.assign rfl) rfl ?_ -- t3
          refine WD.done (by kernel_rfl) ?_
          refine WC.seq ?_
          refine WC.region ?_
          refine WL.y (Yl.move rfl) rfl ?_ -- t61
          refine WL.y (Yl.assign rfl) rfl ?_ -- t2
          refine WL.nil ?_
          refine WC.ret ?_
          repeat (first | (with_reducible refine peelT ?_) | (with_reducible refine peelB ?_) | (with_reducible refine peelTX ?_) | (with_reducible refine peelBX ?_) | (with_reducible refine peelBN ?_) | (with_reducible refine peelBO rfl ?_))
          exact ret1 (.inr rfl) Try.results12 rfl fun w' h => ⟨(ao53, c53), trivial, by rw [sigB_3 hs g37 |>.1], by rw [(sigB_3 hs g37).1, (sigB_3 hs g37).2]; exact h.sub (by repeat (first | exact TakeL.nil | (apply TakeL.cons; · repeat (first | exact Take1.head | apply Take1.tail))))⟩
        · refine WC.seq ?_
          refine WC.region ?_
          refine WL.y (Yl.eql rfl rfl) rfl ?_ -- t55
          refine WL.y (Yl.assign rfl) rfl ?_ -- t54
          refine WL.nil ?_
          refine WC.condD rfl (fun g54 => ?_) (fun g54 => ?_)
          · refine WC.region ?_
            refine WL.y (Yl.move rfl) rfl ?_ -- t56
            refine WL.y (Yl.field fo34_7 rfl) rfl ?_ -- t57
            refine WL.y (Yl.load on5 rfl (by repeat (first | exact Take1.head | apply Take1.tail)) (Sg.c54 hs)) rfl ?_ -- t58
            refine WL.to (To.buildSlice (vs := [.int .u8 s.rs]) un22 zs5 rfl rfl (by simp [Value.cells]) (by decide) (by decide)) rfl ?_ -- t59
            intro b59
            refine WL.to (To.append sl22 rfl rfl (by repeat (first | exact Take1.head | apply Take1.tail)) (Reads.of (RdOf.blk (cs := [.int .u8 s.rs]) (cs' := ints .u8 [s.rs]) (Nat.le_refl _) (by unfold maxLen; omega) (by simp) rfl) (by repeat (first | exact Take1.head | apply Take1.tail))) (ints_one _ _) rfl (ints_append _ _ _) (by unfold maxLen; omega) (by omega)) rfl ?_ -- t60
            rintro ⟨⟨ao60, c60⟩, hc60⟩
            dsimp only at hc60 ⊢
            refine WL.y (Yl.assign rfl) rfl ?_ -- t3
            refine WL.nil ?_
            refine WC.seq ?_
            refine WC.region ?_
            refine WL.y (Yl.move rfl) rfl ?_ -- t61
            refine WL.y (Yl.assign rfl) rfl ?_ -- t2
            refine WL.nil ?_
            refine WC.ret ?_
            repeat (first | (with_reducible refine peelT ?_) | (with_reducible refine peelB ?_) | (with_reducible refine peelTX ?_) | (with_reducible refine peelBX ?_) | (with_reducible refine peelBN ?_) | (with_reducible refine peelBO rfl ?_))
            exact ret1 (.inr rfl) Try.results12 rfl fun w' h => ⟨(ao60, c60), trivial, by rw [sigB_5 hs g54 |>.1], by rw [(sigB_5 hs g54).1, (sigB_5 hs g54).2]; exact h.sub (by repeat (first | exact TakeL.nil | (apply TakeL.cons; · repeat (first | exact Take1.head | apply Take1.tail))))⟩
          · refine WC.skip ?_
            refine WC.seq ?_
            refine WC.region ?_
            refine WL.y (Yl.move rfl) rfl ?_ -- t61
            refine WL.y (Yl.assign rfl) rfl ?_ -- t2
            refine WL.nil ?_
            refine WC.ret ?_
            repeat (first | (with_reducible refine peelT ?_) | (with_reducible refine peelB ?_) | (with_reducible refine peelTX ?_) | (with_reducible refine peelBX ?_) | (with_reducible refine peelBN ?_) | (with_reducible refine peelBO rfl ?_))
            exact ret1 (.inr rfl) Try.results12 rfl fun w' h => ⟨(ao3, c3), trivial, by rw [sigB_0 hs g13 g30 g37 g54 |>.1], by rw [(sigB_0 hs g13 g30 g37 g54).1, (sigB_0 hs g13 g30 g37 g54).2]; exact h.sub (by repeat (first | exact TakeL.nil | (apply TakeL.cons; · repeat (first | exact Take1.head | apply Take1.tail))))⟩
end Go.Proofs.Ytnmeoleahcnnkaa
