/- A log loaded of bytes; the reference's: the walks. -/
import Derived.Test.YtpjgmiemamcdhaaLogR
import Derived.Test.YtpjgmiemamcdhaaRecD
namespace Go.Proofs.Ytpjgmiemamcdhaa
open Go Go.RowKit

theorem keyId : KeyT Try.prog 44 (fun id : List Int => id.length = 16 ∧ Bytes id) kvI :=
  KeyT.flat (m := 5) (ks := idLeaf) (by kernel_rfl) (by decide) (by kernel_rfl) (by kernel_rfl) (by kernel_rfl) (by kernel_rfl) (by kernel_rfl) (by kernel_rfl) (fun x hx => fitsId hx.1 hx.2) (fun x y _ _ h => ints_inj h)
theorem idM_ok {bs : List Int} (hB : Bytes bs) {i : Nat} (h : i ≤ recN bs) : ∀ p ∈ idM (idsOf (recsOf bs i)), p.1.length = 16 ∧ Bytes p.1 := by
  intro p hp
  obtain ⟨x, hx, rfl⟩ := List.mem_map.1 hp
  obtain ⟨r, hr, rfl⟩ := List.mem_map.1 hx
  have := recsOf_ok hB h r hr
  exact ⟨this.len, this.id⟩

def chA (b2 b3 : Nat) (v : Value) (bs : List Int) : List Res := [roR (blkR b2 56 [v]), roR (blkR b3 3 [.int .i64 43]), rdR v 1 bs.length (ints .u8 bs)]
theorem chunk1_iter (b2 b3 : Nat) (bs : List Int) (al : Option Addr) (cl : Nat) (hcl : bs.length ≤ cl) (hsz : bs.length ≤ 1000000) (w : World) (hA : OK w (fpL (chA b2 b3 (.slice al bs.length cl) bs)) (chA b2 b3 (.slice al bs.length cl) bs) w) :
    Iter Try.prog 73 ([.pointer (some ⟨b2, 0, none⟩), .pointer (some ⟨b3, 0, none⟩)] : List Value).toArray (fpL (chA b2 b3 (.slice al bs.length cl) bs)).rd (partYs al bs.length cl) w := by
  unfold chA at hA ⊢
  have hwr : ∀ r ∈ [roR (blkR b2 56 [.slice al bs.length cl]), roR (blkR b3 3 [.int .i64 43]), rdR (.slice al bs.length cl) 1 bs.length (ints .u8 bs)], ∀ k, ¬ r.wr k := by
    intro r hr k hk
    simp at hr
    rcases hr with rfl | rfl | rfl <;> exact hk
  have hln := partYs_len al bs.length cl
  refine iter_of Try.func73 rfl Try.ntmps73 rfl hA hwr ?_
  intro l W g gx T0 hy
  refine WC.seq ?_
  refine WC.region ?_
  refine WL.y (Yl.assign rfl) rfl ?_ -- t4
  refine WL.nil ?_
  refine WC.block ?_
  refine WC.loop (α := Nat × (Nat → Prop)) (fun x => [(0, .func (.yield l) #[] #[]), (1, .pointer (some ⟨b2, 0, none⟩)), (2, .pointer (some ⟨b3, 0, none⟩)), (4, .int .i64 ((43 * x.1 : Nat) : Int))]) (fun x => [gstR g x.1 x.2, roR (blkR b2 56 [.slice al bs.length cl]), roR (blkR b3 3 [.int .i64 43]), rdR (.slice al bs.length cl) 1 bs.length (ints .u8 bs)]) (fun x => x.1 ≤ partN bs.length) (fun x => partN bs.length - x.1) (0, T0) (Nat.zero_le _) ⟨(by repeat (first | exact Sub.nil | refine Sub.cons rfl ?_)), _, (by repeat (first | exact TakeL.nil | (apply TakeL.cons; · repeat (first | exact Take1.head | apply Take1.tail))))⟩ ?_
  rintro ⟨i, T⟩ hi
  dsimp only at hi ⊢
  unfold partN at hi
  refine WC.seq ?_
  refine WC.seq ?_
  refine WC.region ?_
  refine WL.y (Yl.move rfl) rfl ?_ -- t6
  refine WL.y (Yl.loadRo on56 rfl (by repeat (first | exact Take1.head | apply Take1.tail)) (by rfl)) rfl ?_
  refine WL.y (Yl.len un56 rfl) rfl ?_ -- t8
  refine WL.y (Yl.lss rfl rfl) rfl ?_ -- t9
  refine WL.nil ?_
  refine WC.condD rfl (fun g9 => ?_) (fun g9 => ?_)
  · refine WC.skip ?_
    refine WC.seq ?_
    refine WC.block ?_
    refine WC.seq ?_
    have hlt : 43 * i < bs.length := by omega
    refine WC.drawRead mixed (by kernel_rfl) ?_
    refine WH.y (Yl.loadRo on3 rfl (by repeat (first | exact Take1.head | apply Take1.tail)) (by rfl)) rfl ?_
    refine WH.y (Yl.loadRo on56 rfl (by repeat (first | exact Take1.head | apply Take1.tail)) (by rfl)) rfl ?_
    refine WH.y (Yl.move rfl) rfl ?_ -- t15
    refine WH.y (Yl.slice (l := 43 * i) (h := bs.length) un56 sz5 rfl ⟨_, rfl⟩ rfl (by omega) hcl) rfl ?_
    refine WH.y (Yl.len un56 rfl) rfl ?_ -- t17
    refine WH.y (Yl.min2 rfl rfl) rfl ?_ -- t18
    refine WH.say (t := 18) (v' := .int .i64 ((min 43 (bs.length - 43 * i) : Nat) : Int)) rfl (by (refine congrArg _ ?_; split <;> omega)) ?_
    refine WH.y (Yl.assign rfl) rfl ?_ -- t5
    refine WH.nil ?_
    refine WC.seq ?_
    refine WC.region ?_
    refine WL.y (Yl.move rfl) rfl ?_ -- t19
    refine WL.y (Yl.loadRo on56 rfl (by repeat (first | exact Take1.head | apply Take1.tail)) (by rfl)) rfl ?_
    refine WL.y (Yl.move rfl) rfl ?_ -- t21
    refine WL.y (Yl.move rfl) rfl ?_ -- t22
    refine WL.y (Yl.move rfl) rfl ?_ -- t23
    refine WL.y (Yl.add rfl rfl (IntWalk.i64_in _ (by omega))) rfl ?_ -- t24
    refine WL.say (t := 24) (v' := .int .i64 ((partE bs.length i : Nat) : Int)) rfl (by (unfold partE; refine congrArg _ ?_; omega)) ?_
    refine WL.y (Yl.move rfl) rfl ?_ -- t25
    refine WL.y (Yl.move rfl) rfl ?_ -- t26
    refine WL.y (Yl.add rfl rfl (IntWalk.i64_in _ (by omega))) rfl ?_ -- t27
    refine WL.say (t := 27) (v' := .int .i64 ((partE bs.length i : Nat) : Int)) rfl (by (unfold partE; refine congrArg _ ?_; omega)) ?_
    refine WL.y (Yl.slice3L (l := 43 * i) (h := partE bs.length i) (m := partE bs.length i) un56 sz5 rfl rfl rfl rfl (by unfold partE; omega) (Nat.le_refl _) (by unfold partE; omega)) rfl ?_
    refine WL.yield (xs := [.tmp 28]) (i := i) hy rfl rfl (partYs_get hlt) (by repeat (first | exact Take1.head | apply Take1.tail)) rfl ?_
    intro b29 T'
    refine WL.y (Yl.not rfl) rfl ?_ -- t30
    refine WL.nil ?_
    refine WC.cond rfl (fun g30 => ?_) (fun g30 => ?_)
    · refine WC.ret ?_
      repeat (first | (with_reducible refine peelT ?_) | (with_reducible refine peelB ?_) | (with_reducible refine peelTX ?_) | (with_reducible refine peelBX ?_) | (with_reducible refine peelBN ?_) | (with_reducible refine peelBO rfl ?_))
      have hb : b29 = false := by simpa using g30
      subst hb
      simp only [Bool.false_eq_true, if_false]
      exact itStop (i := i) (.inr rfl) Try.results73 (by repeat (first | exact Take1.head | apply Take1.tail)) (by rw [hln]; unfold partN; omega)
    · refine WC.skip ?_
      refine WC.region ?_
      refine WL.y (Yl.move rfl) rfl ?_ -- t10
      refine WL.y (Yl.loadRo on3 rfl (by repeat (first | exact Take1.head | apply Take1.tail)) (by rfl)) rfl ?_
      refine WL.y (Yl.add rfl rfl (IntWalk.i64_in _ (by omega))) rfl ?_ -- t12
      refine WL.say (t := 12) (v' := .int .i64 ((43 * (i + 1) : Nat) : Int)) rfl (by (refine congrArg _ ?_; omega)) ?_
      refine WL.y (Yl.assign rfl) rfl ?_ -- t4
      refine WL.nil ?_
      have hb : b29 = true := by simpa using g30
      subst hb
      simp only [if_true]
      exact ⟨rfl, (i + 1, T'), by dsimp only; unfold partN; omega, by dsimp only; unfold partN; omega, (by repeat (first | exact Sub.nil | refine Sub.cons rfl ?_)), _, (by repeat (first | exact TakeL.nil | (apply TakeL.cons; · repeat (first | exact Take1.head | apply Take1.tail))))⟩
  · refine WC.exit ?_
    repeat (first | (with_reducible refine peelT ?_) | (with_reducible refine peelB ?_) | (with_reducible refine peelTX ?_) | (with_reducible refine peelBX ?_) | (with_reducible refine peelBN ?_) | (with_reducible refine peelBO rfl ?_))
    have hx : i = (partYs al bs.length cl).length := by rw [hln]; unfold partN; omega
    rw [← hx]
    exact itEnd (.inl rfl) Try.results73 (by repeat (first | exact Take1.head | apply Take1.tail))

theorem chunk_any (bs : List Int) (al : Option Addr) (cl : Nat) (hcl : bs.length ≤ cl) (hsz : bs.length ≤ 1000000) (w : World) (hw : OK w (fpL [rdR (.slice al bs.length cl) 1 bs.length (ints .u8 bs)]) [rdR (.slice al bs.length cl) 1 bs.length (ints .u8 bs)] w) :
    Fn Try.prog 54 [.slice al bs.length cl, .int .i64 43] [rdR (.slice al bs.length cl) 1 bs.length (ints .u8 bs)] w (fun _ : (Nat × Nat) × (Nat → Prop) => True) (fun y => .func (.func 73) #[] #[.pointer (some ⟨y.1.1, 0, none⟩), .pointer (some ⟨y.1.2, 0, none⟩)]) (fun y => [itR Try.prog 73 [.pointer (some ⟨y.1.1, 0, none⟩), .pointer (some ⟨y.1.2, 0, none⟩)] y.2 (partYs al bs.length cl)]) := by
  refine enterF Try.func54 rfl Try.ntmps54 rfl hw ?_
  refine WC.seq ?_
  refine WC.region ?_
  refine WL.to (To.box (cs := [.slice al bs.length cl]) rfl rfl) rfl ?_ -- t2
  intro b2
  refine WL.to (To.box (cs := [.int .i64 43]) rfl rfl) rfl ?_ -- t3
  intro b3
  refine WL.y (Yl.assign rfl) rfl ?_ -- t4
  refine WL.nil ?_
  refine WC.seq ?_
  refine WC.seq ?_
  refine WC.region ?_
  refine WL.y (Yl.load on3 rfl (by repeat (first | exact Take1.head | apply Take1.tail)) (by rfl)) rfl ?_ -- t5
  refine WL.y (Yl.lss rfl rfl) rfl ?_ -- t6
  refine WL.nil ?_
  refine WC.condF rfl (by first | rfl | (simp; done) | (simp; omega)) ?_
  refine WC.skip ?_
  refine WC.seq ?_
  refine WC.region ?_
  refine WL.y (Yl.makeFunc (xs := []) (ys := [.tmp 2, .tmp 3]) rfl rfl) rfl ?_ -- t8
  refine WL.y (Yl.assign rfl) rfl ?_ -- t4
  refine WL.nil ?_
  refine WC.ret ?_
  repeat (first | (with_reducible refine peelT ?_) | (with_reducible refine peelB ?_) | (with_reducible refine peelTX ?_) | (with_reducible refine peelBX ?_) | (with_reducible refine peelBN ?_) | (with_reducible refine peelBO rfl ?_))
  refine ret1 (.inr rfl) Try.results54 rfl fun w' hh => ⟨((b2, b3), (fpL (chA b2 b3 (.slice al bs.length cl) bs)).rd), trivial, rfl, ?_⟩
  have hA : OK w _ ([blkR b2 56 [.slice al bs.length cl], blkR b3 3 [.int .i64 43], rdR (.slice al bs.length cl) 1 bs.length (ints .u8 bs)] ++ []) w' := hh.sub (by repeat (first | exact TakeL.nil | (apply TakeL.cons; · repeat (first | exact Take1.head | apply Take1.tail))))
  exact hA.toIter (chunk1_iter b2 b3 bs al cl hcl hsz w' hA.freeze.here) (fun k hk => rd_freeze (A := [blkR b2 56 [.slice al bs.length cl], blkR b3 3 [.int .i64 43], rdR (.slice al bs.length cl) 1 bs.length (ints .u8 bs)]) hk)

/-- What is loaded: the log's place, or none. -/
def ldV (bs : List Int) (bl : Nat) : Value := if okL bs then .pointer (some ⟨bl, 0, none⟩) else .pointer none
def ldE (bs : List Int) : Int := if okL bs then 0 else 9
def ldL (bs : List Int) : List Rc := if okL bs then recsOf bs (recN bs) else []
set_option maxRecDepth 100000 in
theorem load_any (bs : List Int) (v : Value) (hB : Bytes bs) (hsz : bs.length ≤ 176128) (w : World) (hw : OK w (fpL [rdR v 1 bs.length (ints .u8 bs)]) [rdR v 1 bs.length (ints .u8 bs)] w) :
    Fn Try.prog 30 [v] [rdR v 1 bs.length (ints .u8 bs)] w (fun _ : (Nat × Nat) × (Option Addr × Nat) => True) (fun y => .tuple #[ldV bs y.1.1, .int .i64 (ldE bs)]) (fun y => if okL bs then logR y.1.1 y.1.2 y.2.1 y.2.2 (recsOf bs (recN bs)) else []) := by
  obtain ⟨al, cl, rfl, hcl, hml⟩ := (hw.get .head : Rd _ _ _ _ _).form
  refine enterM Try.func30 rfl Try.ntmps30 rfl hw ?_
  refine WC.seq ?_
  refine WC.region ?_
  refine WL.to (To.alloc (cs := [.pointer none]) zr41 rfl) rfl ?_ -- t2
  intro b2
  refine WL.to (To.alloc (cs := [.int .i64 0]) zr47 rfl) rfl ?_ -- t3
  intro b3
  refine WL.nil ?_
  refine WC.seq ?_
  refine WC.seq ?_
  refine WC.region ?_
  refine WL.y (Yl.move rfl) rfl ?_ -- t11
  refine WL.y (Yl.len un56 rfl) rfl ?_ -- t12
  refine WL.y (Yl.gtr rfl rfl) rfl ?_ -- t13
  refine WL.nil ?_
  refine WC.condF rfl (by first | rfl | (simp; done) | (simp; omega)) ?_
  refine WC.skip ?_
  refine WC.seq ?_
  refine WC.region ?_
  refine WL.callC (xs := []) (cap := []) rfl rfl en17 (by repeat (first | exact TakeL.nil | (apply TakeL.cons; · repeat (first | exact Take1.head | apply Take1.tail)))) (fun w hw => logNew_any w hw.left.here) rfl ?_ -- t14 hailer/log.New
  rintro ⟨bl, bb⟩ -
  dsimp only [logR, List.cons_append, List.nil_append]
  refine WL.to (To.alloc (cs := [.pointer none]) zr41 rfl) rfl ?_ -- t4
  intro b4
  refine WL.sto (Sto.one sz41 rfl rfl (by repeat (first | exact Take1.head | apply Take1.tail)) rfl (by rfl) (by rfl)) (fun _ h => nomatch h) ?_ -- st 3
  refine WL.nil ?_
  refine WC.seq ?_
  refine WC.region ?_
  refine WL.to (To.makeMap kvI vvU) rfl ?_ -- t15
  intro b15
  refine WL.to (To.alloc (cs := [.map none]) zr70 rfl) rfl ?_ -- t5
  intro b5
  refine WL.sto (Sto.one sz70 rfl rfl (by repeat (first | exact Take1.head | apply Take1.tail)) rfl (by rfl) (by rfl)) (fun _ h => nomatch h) ?_ -- st 4
  refine WL.nil ?_
  refine WC.seq ?_
  refine WC.seq ?_
  refine WC.region ?_
  refine WL.y (Yl.move rfl) rfl ?_ -- t16
  refine WL.view (fun w h => h.dup (r := rdR (.slice al bs.length cl) 1 bs.length (ints .u8 bs)) (by repeat (first | exact Take1.head | apply Take1.tail)) (fun _ h => h)) ?_
  refine WL.callC (xs := [.tmp 16, _]) (cap := []) rfl rfl en54 (by repeat (first | exact TakeL.nil | (apply TakeL.cons; · repeat (first | exact Take1.head | apply Take1.tail)))) (fun w hw => chunk_any bs al cl hcl (by omega) w hw.left.here) rfl ?_ -- t17 slices.Chunk[[]byte,byte]
  rintro ⟨⟨bc2, bc3⟩, own⟩ -
  refine WL.nil ?_
  refine WC.block ?_
  refine WC.range (α := Option Addr × Nat) (xs := partYs al bs.length cl) (fun i s => [blkR b2 41 [.pointer none], blkR b3 47 [.int .i64 0], blkR b4 41 [.pointer (some ⟨bl, 0, none⟩)], blkR b5 70 [.map (some b15)], mapR kvI vvU b15 (idM (idsOf (recsOf bs i))), blkR bl 87 [.pointer (some ⟨bb, 0, none⟩)], blkR bb 90 [.slice s.1 (recsOf bs i).length s.2, .int .i64 4096], ownR (.slice s.1 (recsOf bs i).length s.2) 46 22 (recsOf bs i).length (vcs rcV (recsOf bs i)), rdR (.slice al bs.length cl) 1 bs.length (ints .u8 bs)]) (fun i _ => i ≤ recN bs ∧ (idsOf (recsOf bs i)).Nodup) (none, 0) rfl en73 partYs_size rfl (by repeat (first | exact Take1.head | apply Take1.tail)) ⟨Nat.zero_le _, List.Pairwise.nil⟩ (by repeat (first | exact TakeL.nil | (apply TakeL.cons; · repeat (first | exact Take1.head | apply Take1.tail)))) ?_ ?_
  · rintro l i x ⟨ao, cap⟩ hx ⟨hin, hnd⟩ W
    obtain ⟨hlt, rfl⟩ := partYs_at hx
    have hbi := recN_le bs
    have hrk := recT_ok (chunk_bytes hB i)
    have hrl := hrk.len
    have hGm := idM_ok hB hin
    have hrx := recsOf_len bs i
    have hil : i ≤ 5000 := by omega
    dsimp only
    show WC _ _ _ ((18, partV al bs.length cl i) :: _) _ _
    refine WC.region ?_
    refine WL.y (Yl.assign rfl) rfl ?_ -- t6
    refine WL.nil ?_
    repeat (first | (with_reducible refine peelT ?_) | (with_reducible refine peelB ?_) | (with_reducible refine peelTX ?_) | (with_reducible refine peelBX ?_) | (with_reducible refine peelBN ?_) | (with_reducible refine peelBO rfl ?_))
    refine fun W2 => ?_
    refine WC.block ?_
    refine WC.seq ?_
    refine WC.region ?_
    refine WL.y (Yl.move rfl) rfl ?_ -- t20
    refine WL.callC (xs := [.tmp 20]) (cap := []) rfl rfl en55 (by repeat (first | exact TakeL.nil | (apply TakeL.cons; · repeat (first | exact Take1.head | apply Take1.tail)))) (fun w hw => rtakeP_any (chunk bs i) _ (chunk_bytes hB i) (by rw [chunk_min]; omega) w (hw.src (A := []) (r := rdR (.slice al bs.length cl) 1 bs.length (ints .u8 bs)) (RdOf.part RdOf.rd' hlt) (by repeat (first | exact Take1.head | apply Take1.tail))) hw.left.here) rfl ?_ -- t21 hailer/rec.Take
    rintro ⟨⟩ -
    refine WL.y (Yl.move rfl) rfl ?_ -- t19
    refine WL.y (Yl.extract rfl rfl) rfl ?_ -- t22
    refine WL.y (Yl.extract rfl rfl) rfl ?_ -- t23
    refine WL.to (To.alloc (cs := Rc.zero.cells) zr46 rfl) rfl ?_ -- t7
    intro b7
    refine WL.sto (Sto.agg sz46 rfl rfl (by repeat (first | exact Take1.head | apply Take1.tail)) (Rc.ones _) (Rc.cells_len hrl) (by rfl) (Rc.all (r := Rc.zero) rfl (recT (chunk bs i)).1.cells (Rc.cells_len hrl))) (fun _ h => nomatch h) ?_ -- st 5
    refine WL.y (Yl.assign rfl) rfl ?_ -- t8
    refine WL.nil ?_
    refine WC.seq ?_
    refine WC.seq ?_
    refine WC.region ?_
    refine WL.y (Yl.load on70 rfl (by repeat (first | exact Take1.head | apply Take1.tail)) (by rfl)) rfl ?_ -- t25
    refine WL.y (Yl.field fo46_0 rfl) rfl ?_ -- t26
    refine WL.y (Yl.loadN ag44 rfl (by repeat (first | exact Take1.head | apply Take1.tail)) (leB (by rw [Rc.cells_len hrl]; omega)) (Rc.cid hrl)) rfl ?_ -- t27
    refine WL.y (Yl.lookupOk (kv := kvI) keyId un70 (fun _ => by kernel_rfl) (z := .agg #[]) hGm rfl rfl ⟨hrl, hrk.id⟩ (MReads.of (m := idM (idsOf (recsOf bs i))) MapOf.own (by repeat (first | exact Take1.head | apply Take1.tail)))) rfl ?_ -- t28
    refine WL.say (t := 28) (v' := .tuple #[.agg #[], .bool (decide ((recT (chunk bs i)).1.id ∈ idsOf (recsOf bs i)))]) rfl (by rw [unit_get, idM_get]) ?_
    refine WL.y (Yl.move rfl) rfl ?_ -- t24
    refine WL.y (Yl.extract rfl rfl) rfl ?_ -- t29
    refine WL.y (Yl.extract rfl rfl) rfl ?_ -- t30
    refine WL.to (To.alloc (cs := []) (z := .agg #[]) (by kernel_rfl) rfl) rfl ?_
    intro b9
    refine WL.sto (Sto.agg sz71 rfl rfl (by repeat (first | exact Take1.head | apply Take1.tail)) (ys := []) (fun _ h => nomatch h) rfl (by rfl) (by rfl)) (fun _ h => nomatch h) ?_ -- st 6
    refine WL.y (Yl.assign rfl) rfl ?_ -- t10
    refine WL.nil ?_
    refine WC.seq ?_
    refine WC.region ?_
    refine WL.y (Yl.move rfl) rfl ?_ -- t31
    refine WL.y (Yl.neq rfl rfl) rfl ?_ -- t32
    refine WL.y (Yl.move rfl) rfl ?_ -- t33
    refine WL.both (t := 33) rfl (fun g33 => ?_) (fun g33 => ?_)
    · refine WL.off rfl rfl rfl rfl ?_ -- t34
      refine WL.y (Yl.pickT rfl rfl) rfl ?_ -- t35
      refine WL.nil ?_
      refine WC.condT rfl (by first | rfl | (simp; done) | (simp; omega)) ?_
      refine WC.seq ?_
      refine WC.region ?_
      refine WL.sto (Sto.one sz41 rfl rfl (by repeat (first | exact Take1.head | apply Take1.tail)) rfl (by rfl) (by rfl)) (fun _ h => nomatch h) ?_ -- st 7
      refine WL.sto (Sto.one sz47 rfl rfl (by repeat (first | exact Take1.head | apply Take1.tail)) rfl (by rfl) (by rfl)) (fun _ h => nomatch h) ?_ -- st 8
      refine WL.nil ?_
      refine WC.ret ?_
      repeat (first | (with_reducible refine peelT ?_) | (with_reducible refine peelB ?_) | (with_reducible refine peelTX ?_) | (with_reducible refine peelBX ?_) | (with_reducible refine peelBN ?_) | (with_reducible refine peelBO rfl ?_))
      refine ⟨[blkR b2 41 [.pointer none], blkR b3 47 [.int .i64 9]], _, (by repeat (first | exact TakeL.nil | (apply TakeL.cons; · repeat (first | exact Take1.head | apply Take1.tail)))), fun D => ?_⟩
      have hok : okL bs = false := by
        first
        | (have hbad : goodB (chunk bs i) = false := by
            cases hg : goodB (chunk bs i)
            · rfl
            · rw [recT_good hg] at g33; simp [errT] at g33
           have := recN_bad hin hbad
           exact okL_short (by omega))
        | (have hgood : goodB (chunk bs i) = true := by
            cases hg : goodB (chunk bs i)
            · rw [recT_bad hg] at g33; simp [errT] at g33
            · rfl
           have h43 : 43 * i + 43 ≤ bs.length := by
            have : (chunk bs i).length = 43 := by unfold goodB at hgood; simp at hgood; exact hgood.1.1
            rw [chunk_min] at this; omega
           have hlt2 := recN_more hin h43 hgood
           rw [recT_good hgood] at g35
           obtain ⟨k, hk, he⟩ := ids_mem (by simpa using g35)
           exact okL_twice hlt2 hk he)
      dsimp only [List.cons_append, List.nil_append]
      repeat (first | (with_reducible refine peelT ?_) | (with_reducible refine peelB ?_) | (with_reducible refine peelTX ?_) | (with_reducible refine peelBX ?_) | (with_reducible refine peelBN ?_) | (with_reducible refine peelBO rfl ?_))
      refine retM.of (.cons (by repeat (first | exact Take1.head | apply Take1.tail)) .nil) ?_
      unfold ldV ldE
      rw [hok]
      first
      | exact retVV (.inr rfl) Try.results30 on41 on47 rfl rfl (by repeat (first | exact Take1.head | apply Take1.tail)) (by repeat (first | exact Take1.head | apply Take1.tail)) fun w' h => ⟨((0, 0), (none, 0)), trivial, rfl, h.sub (by repeat (first | exact TakeL.nil | (apply TakeL.cons; · repeat (first | exact Take1.head | apply Take1.tail))))⟩
      | exact retVV (.inr rfl) Try.results30 on41 on47 rfl rfl (by repeat (first | exact Take1.head | apply Take1.tail)) (by repeat (first | exact Take1.head | apply Take1.tail)) fun w' h => ⟨((bl, bb), (ao, cap)), trivial, rfl, h.sub (by repeat (first | exact TakeL.nil | (apply TakeL.cons; · repeat (first | exact Take1.head | apply Take1.tail))))⟩
    · refine WL.on rfl rfl ?_
      refine WL.y (Yl.move rfl) rfl ?_ -- t34
      refine WL.y (Yl.pickF rfl rfl) rfl ?_ -- t35
      refine WL.nil ?_
      refine WC.cond rfl (fun g35 => ?_) (fun g35 => ?_)
      · refine WC.seq ?_
        refine WC.region ?_
        refine WL.sto (Sto.one sz41 rfl rfl (by repeat (first | exact Take1.head | apply Take1.tail)) rfl (by rfl) (by rfl)) (fun _ h => nomatch h) ?_ -- st 7
        refine WL.sto (Sto.one sz47 rfl rfl (by repeat (first | exact Take1.head | apply Take1.tail)) rfl (by rfl) (by rfl)) (fun _ h => nomatch h) ?_ -- st 8
        refine WL.nil ?_
        refine WC.ret ?_
        repeat (first | (with_reducible refine peelT ?_) | (with_reducible refine peelB ?_) | (with_reducible refine peelTX ?_) | (with_reducible refine peelBX ?_) | (with_reducible refine peelBN ?_) | (with_reducible refine peelBO rfl ?_))
        refine ⟨[blkR b2 41 [.pointer none], blkR b3 47 [.int .i64 9]], _, (by repeat (first | exact TakeL.nil | (apply TakeL.cons; · repeat (first | exact Take1.head | apply Take1.tail)))), fun D => ?_⟩
        have hok : okL bs = false := by
          first
          | (have hbad : goodB (chunk bs i) = false := by
              cases hg : goodB (chunk bs i)
              · rfl
              · rw [recT_good hg] at g33; simp [errT] at g33
             have := recN_bad hin hbad
             exact okL_short (by omega))
          | (have hgood : goodB (chunk bs i) = true := by
              cases hg : goodB (chunk bs i)
              · rw [recT_bad hg] at g33; simp [errT] at g33
              · rfl
             have h43 : 43 * i + 43 ≤ bs.length := by
              have : (chunk bs i).length = 43 := by unfold goodB at hgood; simp at hgood; exact hgood.1.1
              rw [chunk_min] at this; omega
             have hlt2 := recN_more hin h43 hgood
             rw [recT_good hgood] at g35
             obtain ⟨k, hk, he⟩ := ids_mem (by simpa using g35)
             exact okL_twice hlt2 hk he)
        dsimp only [List.cons_append, List.nil_append]
        repeat (first | (with_reducible refine peelT ?_) | (with_reducible refine peelB ?_) | (with_reducible refine peelTX ?_) | (with_reducible refine peelBX ?_) | (with_reducible refine peelBN ?_) | (with_reducible refine peelBO rfl ?_))
        refine retM.of (.cons (by repeat (first | exact Take1.head | apply Take1.tail)) .nil) ?_
        unfold ldV ldE
        rw [hok]
        first
        | exact retVV (.inr rfl) Try.results30 on41 on47 rfl rfl (by repeat (first | exact Take1.head | apply Take1.tail)) (by repeat (first | exact Take1.head | apply Take1.tail)) fun w' h => ⟨((0, 0), (none, 0)), trivial, rfl, h.sub (by repeat (first | exact TakeL.nil | (apply TakeL.cons; · repeat (first | exact Take1.head | apply Take1.tail))))⟩
        | exact retVV (.inr rfl) Try.results30 on41 on47 rfl rfl (by repeat (first | exact Take1.head | apply Take1.tail)) (by repeat (first | exact Take1.head | apply Take1.tail)) fun w' h => ⟨((bl, bb), (ao, cap)), trivial, rfl, h.sub (by repeat (first | exact TakeL.nil | (apply TakeL.cons; · repeat (first | exact Take1.head | apply Take1.tail))))⟩
      · refine WC.skip ?_
        refine WC.seq ?_
        have hgood : goodB (chunk bs i) = true := by
          cases hg : goodB (chunk bs i)
          · rw [recT_bad hg] at g33; simp [errT] at g33
          · rfl
        have h43 : 43 * i + 43 ≤ bs.length := by
          have : (chunk bs i).length = 43 := by unfold goodB at hgood; simp at hgood; exact hgood.1.1
          rw [chunk_min] at this; omega
        have hlt2 := recN_more hin h43 hgood
        have hrT : recT (chunk bs i) = (recAt bs i, true) := recT_good hgood
        rw [hrT] at hrk hrl g35 ⊢
        dsimp only at hrk hrl g35 ⊢
        have hni : (recAt bs i).id ∉ idsOf (recsOf bs i) := by simpa using g35
        have hnd2 := ids_succ hnd hni
        have h22 := Rc.cells_len hrl
        have hids : idsOf (recsOf bs i) ++ [(recAt bs i).id] = idsOf (recsOf bs (i + 1)) := by rw [recsOf_succ]; simp [idsOf]
        refine WC.region ?_
        refine WL.y (Yl.load on70 rfl (by repeat (first | exact Take1.head | apply Take1.tail)) (by rfl)) rfl ?_ -- t36
        refine WL.y (Yl.field fo46_0 rfl) rfl ?_ -- t37
        refine WL.y (Yl.loadN ag44 rfl (by repeat (first | exact Take1.head | apply Take1.tail)) (leB (by rw [h22]; omega)) (Rc.cid hrl)) rfl ?_ -- t38
        refine WL.y (Yl.build rfl (cs := []) (fun _ => by kernel_rfl)) rfl ?_ -- t39
        refine WL.sto (Sto.mapPut (v := ()) (q := (recAt bs i).id) (m := idM (idsOf (recsOf bs i))) (kv := kvI) keyId un70 hGm rfl rfl ⟨hrl, hrk.id⟩ rfl (by repeat (first | exact Take1.head | apply Take1.tail))) (fun _ h => nomatch h) ?_ -- st 9
        refine WL.nil ?_
        rw [idM_put hni, hids]
        refine WC.drawAny (Hs := [blkR b4 41 [.pointer (some ⟨bl, 0, none⟩)], blkR bl 87 [.pointer (some ⟨bb, 0, none⟩)], blkR b7 46 (recAt bs i).cells]) mixed (by kernel_rfl) ⟨_, (by repeat (first | exact TakeL.nil | (apply TakeL.cons; · repeat (first | exact Take1.head | apply Take1.tail))))⟩ ?_
        refine WD.take 0 rfl (by kernel_rfl) (by kernel_rfl) (by kernel_rfl) rfl rfl (Yl.load on41 rfl (by repeat (first | exact Take1.head | apply Take1.tail)) (by rfl)) rfl ?_ -- t40
        refine WD.take 1 rfl (by kernel_rfl) (by kernel_rfl) (by kernel_rfl) rfl rfl (Yl.nilCheck rfl) rfl ?_ -- t41
        refine WD.take 2 rfl (by kernel_rfl) (by kernel_rfl) (by kernel_rfl) rfl rfl (Yl.field fo87_0 rfl) rfl ?_ -- t42
        refine WD.take 3 rfl (by kernel_rfl) (by kernel_rfl) (by kernel_rfl) rfl rfl (Yl.load on84 rfl (by repeat (first | exact Take1.head | apply Take1.tail)) (by rfl)) rfl ?_ -- t43
        refine WD.take 4 rfl (by kernel_rfl) (by kernel_rfl) (by kernel_rfl) rfl rfl (Yl.load on41 rfl (by repeat (first | exact Take1.head | apply Take1.tail)) (by rfl)) rfl ?_ -- t44
        refine WD.take 5 rfl (by kernel_rfl) (by kernel_rfl) (by kernel_rfl) rfl rfl (Yl.nilCheck rfl) rfl ?_ -- t45
        refine WD.take 6 rfl (by kernel_rfl) (by kernel_rfl) (by kernel_rfl) rfl rfl (Yl.field fo87_0 rfl) rfl ?_ -- t46
        refine WD.take 7 rfl (by kernel_rfl) (by kernel_rfl) (by kernel_rfl) rfl rfl (Yl.load on84 rfl (by repeat (first | exact Take1.head | apply Take1.tail)) (by rfl)) rfl ?_ -- t47
        refine WD.take 8 rfl (by kernel_rfl) (by kernel_rfl) (by kernel_rfl) rfl rfl (Yl.nilCheck rfl) rfl ?_ -- t48
        refine WD.take 9 rfl (by kernel_rfl) (by kernel_rfl) (by kernel_rfl) rfl rfl (Yl.field fo90_0 rfl) rfl ?_ -- t49
        refine WD.take 11 rfl (by kernel_rfl) (by kernel_rfl) (by kernel_rfl) rfl rfl (Yl.loadN ag46 rfl (by repeat (first | exact Take1.head | apply Take1.tail)) (leB (by rw [h22]; omega)) (Rc.call hrl)) rfl ?_ -- t51
        refine WD.two 10 12 (by kernel_rfl) ?_ ?_
        · refine WO.y rfl rfl .no (Yl.load on39 rfl (by repeat (first | exact Take1.head | apply Take1.tail)) (by rfl)) rfl ?_ -- t50
          refine WD.one 12 (by kernel_rfl) ?_
          refine WO.to rfl rfl .no (To.buildSlice (vs := [.agg (recAt bs i).cells.toArray]) un39 zs46 rfl rfl (by simp [Value.cells, h22]) (by decide) (by decide)) rfl (fun _ => ⟨_, (by repeat (first | exact TakeL.nil | (apply TakeL.cons; · repeat (first | exact Take1.head | apply Take1.tail))))⟩) ?_
          intro b52
          refine WD.one 13 (by kernel_rfl) ?_
          refine WO.to rfl rfl .no (To.append sl39 rfl rfl (by repeat (first | exact Take1.head | apply Take1.tail)) (Reads.of (RdOf.blk (size := 22) (cs := flat [.agg (recAt bs i).cells.toArray]) (cs' := (recAt bs i).cells) (Nat.le_refl _) (by unfold maxLen; omega) (by simp [flat, Value.cells, h22]) (by simp [flat, Value.cells]; rw [List.take_of_length_le (by rw [h22]; omega)])) (by repeat (first | exact Take1.head | apply Take1.tail))) (Rc.ones _) (show (recsOf bs i).length + 1 = (recsOf bs (i + 1)).length by rw [recsOf_len, recsOf_len]) (show vcs rcV (recsOf bs i) ++ (recAt bs i).cells = vcs rcV (recsOf bs (i + 1)) by rw [recsOf_succ, vcs_app, vcs_one]; rfl) (by rw [recsOf_len]; unfold maxLen; omega) (by rw [recsOf_len]; omega)) rfl (fun _ => ⟨_, (by repeat (first | exact TakeL.nil | (apply TakeL.cons; · repeat (first | exact Take1.head | apply Take1.tail))))⟩) ?_ -- t53
          rintro ⟨⟨ao53, c53⟩, hc53⟩
          dsimp only at hc53 ⊢
          refine WD.take 14 rfl (by kernel_rfl) (by kernel_rfl) (by kernel_rfl) rfl rfl (Yl.nilCheck rfl) rfl ?_ -- t54
          refine WD.take 15 rfl (by kernel_rfl) (by kernel_rfl) (by kernel_rfl) rfl rfl (Yl.field fo90_0 rfl) rfl ?_ -- t55
          refine WD.one 16 (by kernel_rfl) ?_
          refine WO.sto rfl rfl .no (Sto.one sz39 rfl rfl (by repeat (first | exact Take1.head | apply Take1.tail)) rfl (by rfl) (by rfl)) ⟨_, (by repeat (first | exact TakeL.nil | (apply TakeL.cons; · repeat (first | exact Take1.head | apply Take1.tail))))⟩ ?_ -- st 10
          refine WD.done (by kernel_rfl) ?_
          repeat (first | (with_reducible refine peelT ?_) | (with_reducible refine peelB ?_) | (with_reducible refine peelTX ?_) | (with_reducible refine peelBX ?_) | (with_reducible refine peelBN ?_) | (with_reducible refine peelBO rfl ?_))
          exact ⟨_, _, (by repeat (first | exact TakeL.nil | (apply TakeL.cons; · repeat (first | exact Take1.head | apply Take1.tail)))), (ao53, c53), ⟨hlt2, hnd2⟩, rfl⟩
        · refine WO.to rfl rfl .no (To.buildSlice (vs := [.agg (recAt bs i).cells.toArray]) un39 zs46 rfl rfl (by simp [Value.cells, h22]) (by decide) (by decide)) rfl (fun _ => ⟨_, (by repeat (first | exact TakeL.nil | (apply TakeL.cons; · repeat (first | exact Take1.head | apply Take1.tail))))⟩) ?_
          intro b52
          refine WD.one 10 (by kernel_rfl) ?_
          refine WO.y rfl rfl .no (Yl.load on39 rfl (by repeat (first | exact Take1.head | apply Take1.tail)) (by rfl)) rfl ?_ -- t50
          refine WD.one 13 (by kernel_rfl) ?_
          refine WO.to rfl rfl .no (To.append sl39 rfl rfl (by repeat (first | exact Take1.head | apply Take1.tail)) (Reads.of (RdOf.blk (size := 22) (cs := flat [.agg (recAt bs i).cells.toArray]) (cs' := (recAt bs i).cells) (Nat.le_refl _) (by unfold maxLen; omega) (by simp [flat, Value.cells, h22]) (by simp [flat, Value.cells]; rw [List.take_of_length_le (by rw [h22]; omega)])) (by repeat (first | exact Take1.head | apply Take1.tail))) (Rc.ones _) (show (recsOf bs i).length + 1 = (recsOf bs (i + 1)).length by rw [recsOf_len, recsOf_len]) (show vcs rcV (recsOf bs i) ++ (recAt bs i).cells = vcs rcV (recsOf bs (i + 1)) by rw [recsOf_succ, vcs_app, vcs_one]; rfl) (by rw [recsOf_len]; unfold maxLen; omega) (by rw [recsOf_len]; omega)) rfl (fun _ => ⟨_, (by repeat (first | exact TakeL.nil | (apply TakeL.cons; · repeat (first | exact Take1.head | apply Take1.tail))))⟩) ?_ -- t53
          rintro ⟨⟨ao53, c53⟩, hc53⟩
          dsimp only at hc53 ⊢
          refine WD.take 14 rfl (by kernel_rfl) (by kernel_rfl) (by kernel_rfl) rfl rfl (Yl.nilCheck rfl) rfl ?_ -- t54
          refine WD.take 15 rfl (by kernel_rfl) (by kernel_rfl) (by kernel_rfl) rfl rfl (Yl.field fo90_0 rfl) rfl ?_ -- t55
          refine WD.one 16 (by kernel_rfl) ?_
          refine WO.sto rfl rfl .no (Sto.one sz39 rfl rfl (by repeat (first | exact Take1.head | apply Take1.tail)) rfl (by rfl) (by rfl)) ⟨_, (by repeat (first | exact TakeL.nil | (apply TakeL.cons; · repeat (first | exact Take1.head | apply Take1.tail))))⟩ ?_ -- st 10
          refine WD.done (by kernel_rfl) ?_
          repeat (first | (with_reducible refine peelT ?_) | (with_reducible refine peelB ?_) | (with_reducible refine peelTX ?_) | (with_reducible refine peelBX ?_) | (with_reducible refine peelBN ?_) | (with_reducible refine peelBO rfl ?_))
          exact ⟨_, _, (by repeat (first | exact TakeL.nil | (apply TakeL.cons; · repeat (first | exact Take1.head | apply Take1.tail)))), (ao53, c53), ⟨hlt2, hnd2⟩, rfl⟩
  · rintro ⟨ao, cap⟩ D ⟨hin, hnd⟩
    rw [partYs_len] at hin hnd ⊢
    have hbi := recN_le bs
    have hpe : partN bs.length = recN bs := by unfold partN at hin ⊢; omega
    rw [hpe] at hnd ⊢
    have hok : okL bs = true := okL_yes (by unfold partN at hpe; omega) hnd
    dsimp only [List.cons_append, List.nil_append]
    refine WC.seq ?_
    refine WC.region ?_
    refine WL.y (Yl.load on41 rfl (by repeat (first | exact Take1.head | apply Take1.tail)) (by rfl)) rfl ?_ -- t56
    refine WL.sto (Sto.one sz41 rfl rfl (by repeat (first | exact Take1.head | apply Take1.tail)) rfl (by rfl) (by rfl)) (fun _ h => nomatch h) ?_ -- st 11
    refine WL.sto (Sto.one sz47 rfl rfl (by repeat (first | exact Take1.head | apply Take1.tail)) rfl (by rfl) (by rfl)) (fun _ h => nomatch h) ?_ -- st 12
    refine WL.nil ?_
    refine WC.ret ?_
    repeat (first | (with_reducible refine peelT ?_) | (with_reducible refine peelB ?_) | (with_reducible refine peelTX ?_) | (with_reducible refine peelBX ?_) | (with_reducible refine peelBN ?_) | (with_reducible refine peelBO rfl ?_))
    refine retM.of (.cons (by repeat (first | exact Take1.head | apply Take1.tail)) .nil) ?_
    unfold ldV ldE
    rw [hok]
    first
    | exact retVV (.inr rfl) Try.results30 on41 on47 rfl rfl (by repeat (first | exact Take1.head | apply Take1.tail)) (by repeat (first | exact Take1.head | apply Take1.tail)) fun w' h => ⟨((0, 0), (none, 0)), trivial, rfl, h.sub (by repeat (first | exact TakeL.nil | (apply TakeL.cons; · repeat (first | exact Take1.head | apply Take1.tail))))⟩
    | exact retVV (.inr rfl) Try.results30 on41 on47 rfl rfl (by repeat (first | exact Take1.head | apply Take1.tail)) (by repeat (first | exact Take1.head | apply Take1.tail)) fun w' h => ⟨((bl, bb), (ao, cap)), trivial, rfl, h.sub (by repeat (first | exact TakeL.nil | (apply TakeL.cons; · repeat (first | exact Take1.head | apply Take1.tail))))⟩

set_option maxRecDepth 100000 in
theorem rload_any (bs : List Int) (v : Value) (hB : Bytes bs) (hsz : bs.length ≤ 176128) (w : World) (hx : RdS w (fpL []) v 1 bs.length (ints .u8 bs)) (hw : OK w (fpL []) [] w) :
    Fn Try.prog 31 [v] [] w (fun _ : Option Addr × Nat => True) (fun y => .tuple #[.slice y.1 (ldL bs).length y.2, .int .i64 (ldE bs)]) (fun y => [ownR (.slice y.1 (ldL bs).length y.2) 46 22 (ldL bs).length (vcs rcV (ldL bs))]) := by
  obtain ⟨al, cl, rfl, hcl, hml⟩ := hx.rd.form
  have hbi := recN_le bs
  have hG := recsOf_ok hB (Nat.le_refl (recN bs))
  refine enterF Try.func31 rfl Try.ntmps31 rfl hw ?_
  refine WC.seq ?_
  refine WC.region ?_
  refine WL.y (Yl.assign rfl) rfl ?_ -- t2
  refine WL.y (Yl.assign rfl) rfl ?_ -- t3
  refine WL.nil ?_
  refine WC.seq ?_
  refine WC.seq ?_
  refine WC.region ?_
  refine WL.y (Yl.move rfl) rfl ?_ -- t7
  refine WL.y (Yl.len un56 rfl) rfl ?_ -- t8
  refine WL.y (Yl.gtr rfl rfl) rfl ?_ -- t9
  refine WL.nil ?_
  refine WC.condF rfl (by first | rfl | (simp; done) | (simp; omega)) ?_
  refine WC.skip ?_
  refine WC.seq ?_
  refine WC.region ?_
  refine WL.y (Yl.move rfl) rfl ?_ -- t10
  refine WL.callC (xs := [.tmp 10]) (cap := []) rfl rfl en56 (by repeat (first | exact TakeL.nil | (apply TakeL.cons; · repeat (first | exact Take1.head | apply Take1.tail)))) (fun w hw => rall_any bs _ hB (by omega) w (hw.srcS (A := []) hx) hw.left.here) rfl ?_ -- t11 hailer/hailerref11.All
  rintro ⟨a11, c11⟩ -
  dsimp only
  rw [← recsOf_cells]
  refine WL.y (Yl.assign rfl) rfl ?_ -- t4
  refine WL.nil ?_
  refine WC.seq ?_
  refine WC.seq ?_
  refine WC.region ?_
  refine WL.y (Yl.move rfl) rfl ?_ -- t12
  refine WL.y (Yl.len un39 rfl) rfl ?_ -- t13
  refine WL.y (Yl.mul rfl rfl (IntWalk.i64_in _ (by omega))) rfl ?_ -- t14
  refine WL.y (Yl.move rfl) rfl ?_ -- t15
  refine WL.y (Yl.len un56 rfl) rfl ?_ -- t16
  refine WL.y (Yl.neq rfl rfl) rfl ?_ -- t17
  refine WL.nil ?_
  refine WC.condD rfl (fun g17 => ?_) (fun g17 => ?_)
  · refine WC.seq ?_
    refine WC.region ?_
    refine WL.y (Yl.assign rfl) rfl ?_ -- t2
    refine WL.y (Yl.assign rfl) rfl ?_ -- t3
    refine WL.nil ?_
    refine WC.ret ?_
    repeat (first | (with_reducible refine peelT ?_) | (with_reducible refine peelB ?_) | (with_reducible refine peelTX ?_) | (with_reducible refine peelBX ?_) | (with_reducible refine peelBN ?_) | (with_reducible refine peelBO rfl ?_))
    have hok : okL bs = false := okL_short (by omega)
    unfold ldL ldE
    rw [hok]
    exact ret2 (.inr rfl) Try.results31 rfl rfl fun w' h => ⟨(none, 0), trivial, rfl, (h.addNil 46 22).sub (by repeat (first | exact TakeL.nil | (apply TakeL.cons; · repeat (first | exact Take1.head | apply Take1.tail))))⟩
  · refine WC.skip ?_
    refine WC.seq ?_
    refine WC.seq ?_
    refine WC.region ?_
    refine WL.y (Yl.assign rfl) rfl ?_ -- t5
    refine WL.nil ?_
    refine WC.block ?_
    refine WC.loop (α := Nat) (fun i => [(0, .slice al bs.length cl), (4, .slice a11 (recN bs) c11), (5, .int .i64 (i : Int))]) (fun _ => [ownR (.slice a11 (recN bs) c11) 46 22 (recN bs) (vcs rcV (recsOf bs (recN bs)))]) (fun i => i ≤ recN bs ∧ (idsOf (recsOf bs i)).Nodup) (fun i => recN bs - i) 0 ⟨Nat.zero_le _, List.Pairwise.nil⟩ ⟨(by repeat (first | exact Sub.nil | refine Sub.cons rfl ?_)), _, (by repeat (first | exact TakeL.nil | (apply TakeL.cons; · repeat (first | exact Take1.head | apply Take1.tail))))⟩ ?_
    rintro i ⟨hi, hnd⟩
    refine WC.seq ?_
    refine WC.seq ?_
    refine WC.region ?_
    refine WL.y (Yl.move rfl) rfl ?_ -- t18
    refine WL.y (Yl.move rfl) rfl ?_ -- t19
    refine WL.y (Yl.len un39 rfl) rfl ?_ -- t20
    refine WL.y (Yl.lss rfl rfl) rfl ?_ -- t21
    refine WL.nil ?_
    refine WC.condD rfl (fun g21 => ?_) (fun g21 => ?_)
    · refine WC.skip ?_
      refine WC.seq ?_
      refine WC.block ?_
      refine WC.seq ?_
      refine WC.region ?_
      refine WL.y (Yl.assign rfl) rfl ?_ -- t6
      refine WL.nil ?_
      refine WC.block ?_
      have hil : i < recN bs := by omega
      refine WC.loop (α := Nat) (fun k => [(0, .slice al bs.length cl), (4, .slice a11 (recN bs) c11), (5, .int .i64 (i : Int)), (6, .int .i64 (k : Int))]) (fun _ => [ownR (.slice a11 (recN bs) c11) 46 22 (recN bs) (vcs rcV (recsOf bs (recN bs)))]) (fun k => k ≤ i ∧ ∀ j, j < k → (recAt bs j).id ≠ (recAt bs i).id) (fun k => i - k) 0 ⟨Nat.zero_le _, fun j hj => absurd hj (Nat.not_lt_zero j)⟩ ⟨(by repeat (first | exact Sub.nil | refine Sub.cons rfl ?_)), _, (by repeat (first | exact TakeL.nil | (apply TakeL.cons; · repeat (first | exact Take1.head | apply Take1.tail))))⟩ ?_
      rintro k ⟨hk, hks⟩
      refine WC.seq ?_
      refine WC.seq ?_
      refine WC.region ?_
      refine WL.y (Yl.move rfl) rfl ?_ -- t24
      refine WL.y (Yl.move rfl) rfl ?_ -- t25
      refine WL.y (Yl.lss rfl rfl) rfl ?_ -- t26
      refine WL.nil ?_
      refine WC.condD rfl (fun g26 => ?_) (fun g26 => ?_)
      · refine WC.skip ?_
        refine WC.seq ?_
        refine WC.block ?_
        refine WC.seq ?_
        have hki : k < i := by omega
        have hgk : (recsOf bs (recN bs))[k]? = some (recAt bs k) := recsOf_get (by omega)
        have hgi : (recsOf bs (recN bs))[i]? = some (recAt bs i) := recsOf_get hil
        have hsz2 : (vcs rcV (recsOf bs (recN bs))).length = recN bs * 22 := by rw [vtR.size hG, recsOf_len]
        have hok1 := recAt_ok hB (bs := bs) (i := k) (by omega)
        have hok2 := recAt_ok hB hil
        have he1 := vtR.at hG hgk
        have he2 := vtR.at hG hgi
        have hid : ∀ {j : Nat} {r : Rc}, r.id.length = 16 → ((vcs rcV (recsOf bs (recN bs))).drop (j * 22)).take 22 = (rcV r).cells.toList → ((vcs rcV (recsOf bs (recN bs))).drop (j * 22 + 0)).take 16 = ints .u8 r.id := by
          intro j r hr h
          have := congrArg (List.take 16) h
          rw [List.take_take] at this
          rw [Nat.add_zero, show (16 : Nat) = min 16 22 from rfl, this]
          have := Rc.cid hr
          rwa [List.drop_zero] at this
        refine WC.drawRead mixed (by kernel_rfl) ?_
        refine WH.y (Yl.move rfl) rfl ?_ -- t29
        refine WH.y (Yl.move rfl) rfl ?_ -- t30
        refine WH.y (Yl.index un39 sz46 rfl rfl (Reads.of (RdOf.own (v := .slice a11 (recN bs) c11)) (by repeat (first | exact Take1.head | apply Take1.tail))) rfl (by omega)) rfl ?_ -- t31
        refine WH.y (Yl.fieldV fo46_0 rfl (Reads.of (RdOf.own (v := .slice a11 (recN bs) c11)) (by repeat (first | exact Take1.head | apply Take1.tail))) (by rw [hsz2]; omega)) rfl ?_
        refine WH.y (Yl.loadON ag44 (by decide) rfl (Reads.of (RdOf.own (v := .slice a11 (recN bs) c11)) (by repeat (first | exact Take1.head | apply Take1.tail))) (by rw [hsz2]; omega) (hid hok1.len he1)) rfl ?_
        refine WH.y (Yl.move rfl) rfl ?_ -- t34
        refine WH.y (Yl.move rfl) rfl ?_ -- t35
        refine WH.y (Yl.index un39 sz46 rfl rfl (Reads.of (RdOf.own (v := .slice a11 (recN bs) c11)) (by repeat (first | exact Take1.head | apply Take1.tail))) rfl (by omega)) rfl ?_ -- t36
        refine WH.y (Yl.fieldV fo46_0 rfl (Reads.of (RdOf.own (v := .slice a11 (recN bs) c11)) (by repeat (first | exact Take1.head | apply Take1.tail))) (by rw [hsz2]; omega)) rfl ?_
        refine WH.y (Yl.loadON ag44 (by decide) rfl (Reads.of (RdOf.own (v := .slice a11 (recN bs) c11)) (by repeat (first | exact Take1.head | apply Take1.tail))) (by rw [hsz2]; omega) (hid hok2.len he2)) rfl ?_
        refine WH.y (Yl.eqA flId rfl rfl (fitsId hok1.len hok1.id) (fitsId hok2.len hok2.id)) rfl ?_
        rw [eqV_ints]
        refine WH.nil ?_
        refine WC.condD rfl (fun g39 => ?_) (fun g39 => ?_)
        · refine WC.seq ?_
          refine WC.region ?_
          refine WL.y (Yl.assign rfl) rfl ?_ -- t2
          refine WL.y (Yl.assign rfl) rfl ?_ -- t3
          refine WL.nil ?_
          refine WC.ret ?_
          repeat (first | (with_reducible refine peelT ?_) | (with_reducible refine peelB ?_) | (with_reducible refine peelTX ?_) | (with_reducible refine peelBX ?_) | (with_reducible refine peelBN ?_) | (with_reducible refine peelBO rfl ?_))
          have hok : okL bs = false := okL_twice hil hki (by assumption)
          unfold ldL ldE
          rw [hok]
          exact ret2 (.inr rfl) Try.results31 rfl rfl fun w' h => ⟨(none, 0), trivial, rfl, (h.addNil 46 22).sub (by repeat (first | exact TakeL.nil | (apply TakeL.cons; · repeat (first | exact Take1.head | apply Take1.tail))))⟩
        · refine WC.skip ?_
          refine WC.region ?_
          refine WL.y (Yl.move rfl) rfl ?_ -- t27
          refine WL.y (Yl.add rfl rfl (IntWalk.i64_in _ (by omega))) rfl ?_ -- t28
          refine WL.y (Yl.assign rfl) rfl ?_ -- t6
          refine WL.nil ?_
          exact ⟨rfl, k + 1, ⟨by omega, fun j hj => by
            by_cases e : j = k
            · subst e; assumption
            · exact hks j (by omega)⟩, by omega, (by repeat (first | exact Sub.nil | refine Sub.cons rfl ?_)), _, (by repeat (first | exact TakeL.nil | (apply TakeL.cons; · repeat (first | exact Take1.head | apply Take1.tail))))⟩
      · refine WC.exit ?_
        refine WC.region ?_
        refine WL.y (Yl.move rfl) rfl ?_ -- t22
        refine WL.y (Yl.add rfl rfl (IntWalk.i64_in _ (by omega))) rfl ?_ -- t23
        refine WL.y (Yl.assign rfl) rfl ?_ -- t5
        refine WL.nil ?_
        have hkk : k = i := by omega
        subst hkk
        exact ⟨rfl, k + 1, ⟨hil, ids_succ hnd (fun hm => by obtain ⟨j, hj, he⟩ := ids_mem hm; exact hks j hj he)⟩, by omega, (by repeat (first | exact Sub.nil | refine Sub.cons rfl ?_)), _, (by repeat (first | exact TakeL.nil | (apply TakeL.cons; · repeat (first | exact Take1.head | apply Take1.tail))))⟩
    · refine WC.exit ?_
      refine WC.seq ?_
      refine WC.region ?_
      refine WL.y (Yl.move rfl) rfl ?_ -- t40
      refine WL.y (Yl.assign rfl) rfl ?_ -- t2
      refine WL.y (Yl.assign rfl) rfl ?_ -- t3
      refine WL.nil ?_
      refine WC.ret ?_
      repeat (first | (with_reducible refine peelT ?_) | (with_reducible refine peelB ?_) | (with_reducible refine peelTX ?_) | (with_reducible refine peelBX ?_) | (with_reducible refine peelBN ?_) | (with_reducible refine peelBO rfl ?_))
      have hii : i = recN bs := by omega
      subst hii
      have hok : okL bs = true := okL_yes (by omega) hnd
      unfold ldL ldE
      rw [hok]
      simp only [if_true]
      rw [show recN bs = (recsOf bs (recN bs)).length by rw [recsOf_len]]
      exact ret2 (.inr rfl) Try.results31 rfl rfl fun w' h => ⟨(a11, c11), trivial, by simp only [recsOf_len], by simp only [recsOf_len] at h ⊢; exact h.sub (by repeat (first | exact TakeL.nil | (apply TakeL.cons; · repeat (first | exact Take1.head | apply Take1.tail))))⟩
end Go.Proofs.Ytpjgmiemamcdhaa
