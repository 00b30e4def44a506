/- What is known outright: the facts; books that are only read; no book. -/
import Derived.Test.YtmcdbjbkkejbbaaGreatMerG
namespace Go.Proofs.YtmcdbjbkkejbbaaGreat
open Go Go.RowKit
def kx : Rc := ⟨[1, 0, 0, 0, 0, 0, 0, 0, 0, 0, 0, 0, 0, 0, 0, 0], 0, false, 3, 5, 0, 65⟩
def ky : Rc := ⟨[1, 0, 0, 0, 0, 0, 0, 0, 0, 0, 0, 0, 0, 0, 0, 0], 0, false, 2, 6, 0, 20⟩
def kz : Rc := ⟨[2, 0, 0, 0, 0, 0, 0, 0, 0, 0, 0, 0, 0, 0, 0, 0], 0, false, 1, 7, 8, 9⟩
def kw : Rc := { ky with bg := 5, en := 65 }
theorem zero16 (a : Int) (h : 0 ≤ a ∧ a < 256) : Bytes [a, 0, 0, 0, 0, 0, 0, 0, 0, 0, 0, 0, 0, 0, 0, 0] := by
  intro x hx
  simp only [List.mem_cons, List.not_mem_nil, or_false] at hx
  omega
theorem kx_ok : kx.ok := ⟨rfl, zero16 1 (by decide), by unfold U8; decide, by unfold U8; decide, by unfold U64; decide, by unfold U64; decide, by unfold U64; decide⟩
theorem ky_ok : ky.ok := ⟨rfl, zero16 1 (by decide), by unfold U8; decide, by unfold U8; decide, by unfold U64; decide, by unfold U64; decide, by unfold U64; decide⟩
theorem kz_ok : kz.ok := ⟨rfl, zero16 2 (by decide), by unfold U8; decide, by unfold U8; decide, by unfold U64; decide, by unfold U64; decide, by unfold U64; decide⟩
theorem kw_ok : kw.ok := ⟨rfl, zero16 1 (by decide), by unfold U8; decide, by unfold U8; decide, by unfold U64; decide, by unfold U64; decide, by unfold U64; decide⟩
theorem kx_may : mayB kx = true := by decide +kernel
theorem ky_may : mayB ky = true := by decide +kernel
theorem kz_may : mayB kz = true := by decide +kernel
theorem kzero_ok : Rc.zero.ok := ⟨rfl, zero16 0 (by decide), by unfold U8; decide, by unfold U8; decide, by unfold U64; decide, by unfold U64; decide, by unfold U64; decide⟩
theorem k0_may : mayB Rc.zero = false := by decide +kernel
theorem k_better : betterF kx ky = ky := by decide +kernel
theorem k_a : (joinF [] [kx, kz]).1 = [kz, kx] := by decide +kernel
theorem k_b : (joinF [] [ky]).1 = [ky] := by decide +kernel
theorem k_view : viewF (bestF [[kz, kx], [], [ky]]) [[kz, kx], [], [ky]] = [kz, kw] := by decide +kernel
theorem k_own (l : List Rc) (h : ROk l) : offL l (digsF l) = [] := by
  unfold offL
  refine List.filter_eq_nil_iff.2 fun r hr => ?_
  have := buI_lt (h r hr)
  unfold offP arF
  rw [digsF_at l (by omega)]
  simp
set_option maxRecDepth 100000 in
theorem k_dig : digF [kx] ≠ digF [ky] := by decide +kernel
theorem k_off : (allB (offL [kz, kx] (digsF [ky]))).length ≠ 0 := by
  have h1 : bdF [kz, kx] 1 = digF [kx] := by unfold bdF; congr 1
  have h2 : bdF [ky] 1 = digF [ky] := by unfold bdF; congr 1
  have hp : offP [kz, kx] (digsF [ky]) kx = true := by
    unfold offP arF
    rw [show (buI kx).toNat = 1 from rfl, digsF_at [ky] (by decide), h1, h2]
    exact decide_eq_true k_dig
  have hm : kx ∈ offL [kz, kx] (digsF [ky]) := List.mem_filter.2 ⟨by simp, hp⟩
  have hg : ROk (offL [kz, kx] (digsF [ky])) := fun r hr => by
    have := (List.mem_filter.1 hr).1
    simp at this
    rcases this with rfl | rfl
    · exact kz_ok
    · exact kx_ok
  rw [allB_len hg]
  have := List.length_pos_of_mem hm
  omega
theorem k_one : allRec [1] = false := by decide +kernel
/-! ### Books that are only read -/
theorem OK.bunO2 {w0 : World} {S : Pm} {H F : List Res} {w : World} {r s : Res} (h : OK w0 S H w) (t : TakeL H [r, s] F) : OK w0 S (bunR [r, s] :: F) w := by
  have h1 := h.perm t.perm
  have h2 := OK.roOne h1 (r := r) .head
  have h3 := OK.roOne h2 (r := s) (.tail .head)
  have h4 : OK w0 S ([r, s].map roR ++ F) w := h3.perm (by show List.Perm (roR s :: roR r :: F) (roR r :: roR s :: F); exact List.Perm.swap _ _ _)
  exact h4.bun
theorem digestP_any (k : Bt) (hB : ∀ x ∈ k.l, Go.Proofs.YtmcdbjbkkejbbaaGreat.Bk x) (hl : k.l.length ≤ 2000) (w : World) (hw : OK w (fpL [bunR (btR (some k))]) [bunR (btR (some k))] w) :
    Fn Tryz.prog 22 [btV (some k)] [bunR (btR (some k))] w (fun _ : Unit => True) (fun _ => .agg (ints .u8 (digF k.l)).toArray) (fun _ => []) := Fn.bun (fun hw => digest_any k.b k.ao k.ca k.l hB hl w hw) hw
theorem digestsP_any (k : Bt) (hB : ∀ x ∈ k.l, Go.Proofs.YtmcdbjbkkejbbaaGreat.Bk x) (hl : k.l.length ≤ 2000) (w : World) (hw : OK w (fpL [bunR (btR (some k))]) [bunR (btR (some k))] w) :
    Fn Tryz.prog 13 [btV (some k)] [bunR (btR (some k))] w (fun _ : Unit => True) (fun _ => .agg (ints .u8 (digsF k.l)).toArray) (fun _ => []) := Fn.bun (fun hw => digests_any k.b k.ao k.ca k.l hB hl w hw) hw
theorem offerP_any (k : Bt) (o : List Int) (ho : o.length = 128) (hob : Bytes o) (hB : ∀ x ∈ k.l, Go.Proofs.YtmcdbjbkkejbbaaGreat.Bk x) (hl : k.l.length ≤ 2000) (w : World) (hw : OK w (fpL [bunR (btR (some k))]) [bunR (btR (some k))] w) :
    Fn Tryz.prog 12 [btV (some k), .agg (ints .u8 o).toArray] [bunR (btR (some k))] w (fun _ : Option Addr × Nat => True) (fun y => .slice y.1 (allB (offL k.l o)).length y.2) (fun y => [ownR (.slice y.1 (allB (offL k.l o)).length y.2) 5 1 (allB (offL k.l o)).length (ints .u8 (allB (offL k.l o)))]) := Fn.bun (fun hw => offer_any k.b k.ao k.ca k.l o ho hob hB hl w hw) hw
theorem lenRo_any (b : Nat) (ao : Option Addr) (ca : Nat) (l : List Rc) (w : World) (hw : OK w (fpL ((bkR b ao ca l).map roR)) ((bkR b ao ca l).map roR) w) :
    Fn Tryz.prog 19 [.pointer (some ⟨b, 0, none⟩)] ((bkR b ao ca l).map roR) w (fun _ : Unit => True) (fun _ => .int .i64 (l.length : Int)) (fun _ => []) := by
  unfold bkR at hw ⊢
  try dsimp only [List.map_cons, List.map_nil] at hw ⊢
  refine enterF Tryz.func19 rfl Tryz.ntmps19 rfl hw ?_
  refine WC.seq ?_
  refine WC.region ?_
  refine WL.y (Yl.assign rfl) rfl ?_ -- t2
  refine WL.nil ?_
  refine WC.seq ?_
  refine WC.seq ?_
  refine WC.region ?_
  refine WL.y (Yl.move rfl) rfl ?_ -- t3
  refine WL.y (Yl.nilEq un26 rfl rfl) rfl ?_ -- t4
  refine WL.know (t := 4) (b' := false) rfl (by first | rfl | (simp; done) | (simp; omega)) ?_
  refine WL.nil ?_
  refine WC.condF rfl (by first | rfl | (simp; done) | (simp; omega)) ?_
  refine WC.skip ?_
  refine WC.seq ?_
  refine WC.region ?_
  refine WL.y (Yl.move rfl) rfl ?_ -- t5
  refine WL.y (Yl.nilCheck rfl) rfl ?_ -- t6
  refine WL.y (Yl.field fo64_0 rfl) rfl ?_ -- t7
  refine WL.y (Yl.loadRo on22 rfl (by repeat (first | exact Take1.head | apply Take1.tail)) (by rfl)) rfl ?_
  refine WL.y (Yl.len un22 rfl) rfl ?_ -- t9
  refine WL.y (Yl.assign rfl) rfl ?_ -- t2
  refine WL.nil ?_
  refine WC.ret ?_
  repeat (first | (with_reducible refine peelT ?_) | (with_reducible refine peelB ?_) | (with_reducible refine peelTX ?_) | (with_reducible refine peelBX ?_) | (with_reducible refine peelBN ?_) | (with_reducible refine peelBO rfl ?_))
  exact ret1 (.inr rfl) Tryz.results19 rfl fun w' h => ⟨(), trivial, rfl, h.sub (by repeat (first | exact TakeL.nil | (apply TakeL.cons; · repeat (first | exact Take1.head | apply Take1.tail))))⟩
theorem lenP_any (k : Bt) (w : World) (hw : OK w (fpL [bunR (btR (some k))]) [bunR (btR (some k))] w) :
    Fn Tryz.prog 19 [btV (some k)] [bunR (btR (some k))] w (fun _ : Unit => True) (fun _ => .int .i64 (k.l.length : Int)) (fun _ => []) := Fn.bun (fun hw => lenRo_any k.b k.ao k.ca k.l w hw) hw
/-! ### What is refused; no book -/
theorem takeBad_any (b : Nat) (r : Rc) (hr : r.ok) (hm : mayB r = false) (w : World) (hw : OK w (fpL []) [] w) :
    Fn Tryz.prog 21 [.pointer (some ⟨b, 0, none⟩), .agg r.cells.toArray] [] w (fun _ : Unit => True) (fun _ => .tuple #[.bool false, .int .i64 2]) (fun _ => []) := by
  have hr22 := Rc.cells_len hr.len
  refine enterF Tryz.func21 rfl Tryz.ntmps21 rfl hw ?_
  refine WC.seq ?_
  refine WC.region ?_
  refine WL.to (To.box (cs := r.cells) rfl rfl) rfl ?_ -- t3
  intro b3
  refine WL.y (Yl.assign rfl) rfl ?_ -- t4
  refine WL.y (Yl.assign rfl) rfl ?_ -- t5
  refine WL.nil ?_
  refine WC.seq ?_
  refine WC.block ?_
  refine WC.seq ?_
  refine WC.region ?_
  refine WL.y (Yl.move rfl) rfl ?_ -- t8
  refine WL.y (Yl.nilEq un26 rfl rfl) rfl ?_ -- t9
  refine WL.know (t := 9) (b' := false) rfl (by first | rfl | (simp; done) | (simp; omega)) ?_
  refine WL.y (Yl.assign rfl) rfl ?_ -- t7
  refine WL.nil ?_
  refine WC.condF rfl (by first | rfl | (simp; done) | (simp; omega)) ?_
  refine WC.seq ?_
  refine WC.region ?_
  refine WL.y (Yl.loadN ag33 rfl (by repeat (first | exact Take1.head | apply Take1.tail)) (leB (by rw [hr22]; omega)) (Rc.call hr.len)) rfl ?_ -- t11
  refine WL.callC (xs := [.tmp 11]) (cap := []) rfl rfl en48 (by repeat (first | exact TakeL.nil | (apply TakeL.cons; · repeat (first | exact Take1.head | apply Take1.tail)))) (fun w hw => may_any r hr w hw.left.here) rfl ?_ -- t12 hailer/rec.May
  rintro ⟨⟩ -
  rw [hm]
  refine WL.y (Yl.not rfl) rfl ?_ -- t13
  refine WL.y (Yl.assign rfl) rfl ?_ -- t10
  refine WL.nil ?_
  refine WC.condT rfl (by first | rfl | (simp; done) | (simp; omega)) ?_
  refine WC.seq ?_
  refine WC.region ?_
  refine WL.y (Yl.assign rfl) rfl ?_ -- t4
  refine WL.y (Yl.assign rfl) rfl ?_ -- t5
  refine WL.nil ?_
  refine WC.ret ?_
  repeat (first | (with_reducible refine peelT ?_) | (with_reducible refine peelB ?_) | (with_reducible refine peelTX ?_) | (with_reducible refine peelBX ?_) | (with_reducible refine peelBN ?_) | (with_reducible refine peelBO rfl ?_))
  exact ret2 (.inr rfl) Tryz.results21 rfl rfl fun w' h => ⟨(), trivial, rfl, h.sub (by repeat (first | exact TakeL.nil | (apply TakeL.cons; · repeat (first | exact Take1.head | apply Take1.tail))))⟩
theorem takeNil_any (r : Rc) (w : World) (hw : OK w (fpL []) [] w) :
    Fn Tryz.prog 21 [.pointer none, .agg r.cells.toArray] [] w (fun _ : Unit => True) (fun _ => .tuple #[.bool false, .int .i64 1]) (fun _ => []) := by
  refine enterF Tryz.func21 rfl Tryz.ntmps21 rfl hw ?_
  refine WC.seq ?_
  refine WC.region ?_
  refine WL.to (To.box (cs := r.cells) rfl rfl) rfl ?_ -- t3
  intro b3
  refine WL.y (Yl.assign rfl) rfl ?_ -- t4
  refine WL.y (Yl.assign rfl) rfl ?_ -- t5
  refine WL.nil ?_
  refine WC.seq ?_
  refine WC.block ?_
  refine WC.seq ?_
  refine WC.region ?_
  refine WL.y (Yl.move rfl) rfl ?_ -- t8
  refine WL.y (Yl.nilEq un26 rfl rfl) rfl ?_ -- t9
  refine WL.know (t := 9) (b' := true) rfl (by first | rfl | (simp; done) | (simp; omega)) ?_
  refine WL.y (Yl.assign rfl) rfl ?_ -- t7
  refine WL.nil ?_
  refine WC.condT rfl (by first | rfl | (simp; done) | (simp; omega)) ?_
  refine WC.seq ?_
  refine WC.region ?_
  refine WL.y (Yl.assign rfl) rfl ?_ -- t4
  refine WL.y (Yl.assign rfl) rfl ?_ -- t5
  refine WL.nil ?_
  refine WC.ret ?_
  repeat (first | (with_reducible refine peelT ?_) | (with_reducible refine peelB ?_) | (with_reducible refine peelTX ?_) | (with_reducible refine peelBX ?_) | (with_reducible refine peelBN ?_) | (with_reducible refine peelBO rfl ?_))
  exact ret2 (.inr rfl) Tryz.results21 rfl rfl fun w' h => ⟨(), trivial, rfl, h.sub (by repeat (first | exact TakeL.nil | (apply TakeL.cons; · repeat (first | exact Take1.head | apply Take1.tail))))⟩
set_option maxRecDepth 100000 in
theorem acceptBad_any (b : Nat) (bs : List Int) (v : Value) (hB : Bytes bs) (hsz : bs.length ≤ 1000000) (hn : allRec bs = false) (w : World) (hw : OK w (fpL [rdR v 1 bs.length (ints .u8 bs)]) [rdR v 1 bs.length (ints .u8 bs)] w) :
    Fn Tryz.prog 15 [.pointer (some ⟨b, 0, none⟩), v] [rdR v 1 bs.length (ints .u8 bs)] w (fun _ : Unit => True) (fun _ => .tuple #[.int .i64 0, .int .i64 9]) (fun y => []) := by
  obtain ⟨al, cl, rfl, hcl, hml⟩ := (hw.get .head : Rd _ _ _ _ _).form
  have hbn := recN_le bs
  refine enterM Tryz.func15 rfl Tryz.ntmps15 rfl hw ?_
  refine WC.seq ?_
  refine WC.region ?_
  refine WL.y (Yl.assign rfl) rfl ?_ -- t4
  refine WL.y (Yl.assign rfl) rfl ?_ -- t5
  refine WL.nil ?_
  refine WC.seq ?_
  refine WC.seq ?_
  refine WC.region ?_
  refine WL.y (Yl.move rfl) rfl ?_ -- t9
  refine WL.y (Yl.nilEq un26 rfl rfl) rfl ?_ -- t10
  refine WL.know (t := 10) (b' := false) rfl (by first | rfl | (simp; done) | (simp; omega)) ?_
  refine WL.nil ?_
  refine WC.condF rfl (by first | rfl | (simp; done) | (simp; omega)) ?_
  refine WC.skip ?_
  refine WC.seq ?_
  refine WC.region ?_
  refine WL.to (To.alloc (cs := [.slice none 0 0]) zr22 rfl) rfl ?_ -- t6
  intro b6
  refine WL.nil ?_
  refine WC.seq ?_
  refine WC.seq ?_
  refine WC.view (fun w h => h.dup (r := rdR (.slice al bs.length cl) 1 bs.length (ints .u8 bs)) (by repeat (first | exact Take1.head | apply Take1.tail)) (fun _ h => h)) ?_
  refine WC.region ?_
  refine WL.y (Yl.move rfl) rfl ?_ -- t11
  refine WL.callC (xs := [.tmp 11]) (cap := []) rfl rfl en34 (by repeat (first | exact TakeL.nil | (apply TakeL.cons; · repeat (first | exact Take1.head | apply Take1.tail)))) (fun w hw => recAll_any bs (.slice al bs.length cl) hB (by omega) w hw.left.here) rfl ?_ -- t12 hailer/rec.All
  rintro ⟨bn, own⟩ -
  dsimp only [List.cons_append, List.nil_append]
  refine WL.nil ?_
  refine WC.block ?_
  refine WC.view (fun w h => h.addNil 33 22) ?_
  refine WC.range (α := Option Addr × Nat) (xs := recYs bs) (fun i s => [blkR b6 22 [.slice s.1 (recsOf bs i).length s.2], ownR (.slice s.1 (recsOf bs i).length s.2) 33 22 (recsOf bs i).length (vcs rcV (recsOf bs i))]) (fun _ _ => True) (none, 0) rfl en65 recYs_size rfl (by repeat (first | exact Take1.head | apply Take1.tail)) trivial (by repeat (first | exact TakeL.nil | (apply TakeL.cons; · repeat (first | exact Take1.head | apply Take1.tail)))) ?_ ?_
  · rintro l2 i x ⟨ao1, ca1⟩ hx - W
    obtain ⟨hi, rfl⟩ := recYs_at hx
    have hxo := recAt_ok hB hi
    have h22 := Rc.cells_len hxo.len
    have hrl := recsOf_len bs i
    have hrl2 := recsOf_len bs (i + 1)
    dsimp only
    show WC _ _ _ ((14, .agg (recAt bs i).cells.toArray) :: (13, _) :: _) _ _
    refine WC.region ?_
    refine WL.to (To.alloc (cs := Rc.zero.cells) zr33 rfl) rfl ?_ -- t8
    intro b8
    refine WL.sto (Sto.agg sz33 rfl rfl (by repeat (first | exact Take1.head | apply Take1.tail)) (Rc.ones _) h22 (by rfl) (Rc.all (r := Rc.zero) rfl (recAt bs i).cells h22)) (fun _ h => nomatch h) ?_ -- st 1
    refine WL.nil ?_
    repeat (first | (with_reducible refine peelT ?_) | (with_reducible refine peelB ?_) | (with_reducible refine peelTX ?_) | (with_reducible refine peelBX ?_) | (with_reducible refine peelBN ?_) | (with_reducible refine peelBO rfl ?_))
    refine fun W2 => ?_
    refine WC.block ?_
    refine WC.region ?_
    refine WL.y (Yl.load on22 rfl (by repeat (first | exact Take1.head | apply Take1.tail)) (by rfl)) rfl ?_ -- t15
    refine WL.y (Yl.loadN ag33 rfl (by repeat (first | exact Take1.head | apply Take1.tail)) (leB (by rw [h22]; omega)) (Rc.call hxo.len)) rfl ?_ -- t16
    refine WL.to (To.buildSlice (vs := [.agg (recAt bs i).cells.toArray]) un22 zs33 rfl rfl (by simp [Value.cells, h22]) (by decide) (by decide)) rfl ?_ -- t17
    intro b17
    rw [flat1]
    refine WL.to (To.append sl22 rfl rfl (by repeat (first | exact Take1.head | apply Take1.tail)) (Reads.of (rdRc hxo) (by repeat (first | exact Take1.head | apply Take1.tail))) (Rc.ones _) (show _ = (recsOf bs (i + 1)).length by omega) (show _ = vcs rcV (recsOf bs (i + 1)) by rw [recsOf_succ, vcs_app, vcs_one]; rfl) (by unfold maxLen; omega) (by omega)) rfl ?_ -- t18
    rintro ⟨⟨ao18, c18⟩, hc18⟩
    dsimp only at hc18 ⊢
    refine WL.sto (Sto.one sz22 rfl rfl (by repeat (first | exact Take1.head | apply Take1.tail)) rfl (by rfl) (by rfl)) (fun _ h => nomatch h) ?_ -- st 2
    refine WL.nil ?_
    repeat (first | (with_reducible refine peelT ?_) | (with_reducible refine peelB ?_) | (with_reducible refine peelTX ?_) | (with_reducible refine peelBX ?_) | (with_reducible refine peelBN ?_) | (with_reducible refine peelBO rfl ?_))
    exact ⟨[blkR b6 22 [.slice ao18 (recsOf bs (i + 1)).length c18], ownR (.slice ao18 (recsOf bs (i + 1)).length c18) 33 22 (recsOf bs (i + 1)).length (vcs rcV (recsOf bs (i + 1)))], _, (by repeat (first | exact TakeL.nil | (apply TakeL.cons; · repeat (first | exact Take1.head | apply Take1.tail)))), (ao18, c18), trivial, rfl⟩
  · rintro ⟨ao1, ca1⟩ D -
    rw [recYs_len]
    have hrl := recsOf_len bs (recN bs)
    have hne : recN bs * 43 ≠ bs.length := by unfold allRec at hn; simpa using hn
    dsimp only [List.cons_append, List.nil_append]
    refine WC.seq ?_
    refine WC.seq ?_
    refine WC.region ?_
    refine WL.y (Yl.load on22 rfl (by repeat (first | exact Take1.head | apply Take1.tail)) (by rfl)) rfl ?_ -- t19
    refine WL.y (Yl.len un22 rfl) rfl ?_ -- t20
    refine WL.y (Yl.mul rfl rfl (IntWalk.i64_in _ (by omega))) rfl ?_ -- t21
    refine WL.y (Yl.move rfl) rfl ?_ -- t22
    refine WL.y (Yl.len un23 rfl) rfl ?_ -- t23
    refine WL.y (Yl.neq rfl rfl) rfl ?_ -- t24
    refine WL.nil ?_
    refine WC.condT rfl (by simp only [decide_eq_true_eq, ne_eq]; omega) ?_
    refine WC.seq ?_
    refine WC.region ?_
    refine WL.y (Yl.assign rfl) rfl ?_ -- t4
    refine WL.y (Yl.assign rfl) rfl ?_ -- t5
    refine WL.nil ?_
    refine WC.ret ?_
    repeat (first | (with_reducible refine peelT ?_) | (with_reducible refine peelB ?_) | (with_reducible refine peelTX ?_) | (with_reducible refine peelBX ?_) | (with_reducible refine peelBN ?_) | (with_reducible refine peelBO rfl ?_))
    refine retM.of (.cons (by repeat (first | exact Take1.head | apply Take1.tail)) .nil) ?_
    exact ret2 (.inr rfl) Tryz.results15 rfl rfl fun w' h => ⟨(), trivial, rfl, h.sub (by repeat (first | exact TakeL.nil | (apply TakeL.cons; · repeat (first | exact Take1.head | apply Take1.tail))))⟩
theorem joinNil_any (gf : Nat) (lb : List Value) (own : Nat → Prop) (xs : List Rc) (eg : ∀ args w, (callFunc gf args).run Tryz.prog w = .ok (.enter gf args) w) (hG : ROk xs) (w : World) (hw : OK w (fpL [itR Tryz.prog gf lb own (ysR xs)]) [itR Tryz.prog gf lb own (ysR xs)] w) :
    Fn Tryz.prog 23 [.pointer none, .func (.func gf) #[] lb.toArray] [itR Tryz.prog gf lb own (ysR xs)] w (fun _ : Unit => True) (fun _ => .int .i64 0) (fun _ => []) := by
  refine enterM Tryz.func23 rfl Tryz.ntmps23 rfl hw ?_
  refine WC.seq ?_
  refine WC.region ?_
  refine WL.to (To.box (cs := [.pointer none]) rfl rfl) rfl ?_ -- t2
  intro b2
  refine WL.y (Yl.assign rfl) rfl ?_ -- t4
  refine WL.nil ?_
  refine WC.seq ?_
  refine WC.region ?_
  refine WL.to (To.alloc (cs := [.int .i64 0]) zr3 rfl) rfl ?_ -- t5
  intro b5
  refine WL.sto (Sto.one sz3 rfl rfl (by repeat (first | exact Take1.head | apply Take1.tail)) rfl (by rfl) (by rfl)) (fun _ h => nomatch h) ?_ -- st 1
  refine WL.nil ?_
  refine WC.seq ?_
  refine WC.seq ?_
  refine WC.region ?_
  refine WL.y (Yl.move rfl) rfl ?_ -- t9
  refine WL.y (Yl.eqNilF (t := 35) (by kernel_rfl) rfl rfl) rfl ?_
  refine WL.nil ?_
  refine WC.condF rfl (by first | rfl | (simp; done) | (simp; omega)) ?_
  refine WC.skip ?_
  refine WC.seq ?_
  refine WC.seq ?_
  refine WC.region ?_
  refine WL.y (Yl.move rfl) rfl ?_ -- t11
  refine WL.nil ?_
  refine WC.block ?_
  refine WC.range (α := Unit) (lb := lb) (xs := ysR xs) (fun i s => [blkR b2 26 [.pointer none], blkR b5 3 [.int .i64 0]]) (fun _ _ => True) () rfl eg ysR_size rfl (by repeat (first | exact Take1.head | apply Take1.tail)) trivial (by repeat (first | exact TakeL.nil | (apply TakeL.cons; · repeat (first | exact Take1.head | apply Take1.tail)))) ?_ ?_
  · rintro l2 i x ⟨⟩ hx - W
    obtain ⟨x, hx0, rfl⟩ := ysR_at hx
    have hxo : x.ok := hG.get hx0
    have h22 := Rc.cells_len hxo.len
    show WC _ _ _ ((12, .agg x.cells.toArray) :: _) _ _
    refine WC.region ?_
    refine WL.to (To.alloc (cs := Rc.zero.cells) zr33 rfl) rfl ?_ -- t6
    intro b6
    refine WL.sto (Sto.agg sz33 rfl rfl (by repeat (first | exact Take1.head | apply Take1.tail)) (Rc.ones _) h22 (by rfl) (Rc.all (r := Rc.zero) rfl x.cells h22)) (fun _ h => nomatch h) ?_ -- st 2
    refine WL.nil ?_
    repeat (first | (with_reducible refine peelT ?_) | (with_reducible refine peelB ?_) | (with_reducible refine peelTX ?_) | (with_reducible refine peelBX ?_) | (with_reducible refine peelBN ?_) | (with_reducible refine peelBO rfl ?_))
    refine fun W2 => ?_
    refine WC.block ?_
    refine WC.seq ?_
    refine WC.region ?_
    refine WL.y (Yl.load on26 rfl (by repeat (first | exact Take1.head | apply Take1.tail)) (by rfl)) rfl ?_ -- t14
    refine WL.y (Yl.loadN ag33 rfl (by repeat (first | exact Take1.head | apply Take1.tail)) (leB (by rw [h22]; omega)) (Rc.call hxo.len)) rfl ?_ -- t15
    refine WL.callC (xs := [.tmp 14, .tmp 15]) (cap := []) rfl rfl en21 (by repeat (first | exact TakeL.nil | (apply TakeL.cons; · repeat (first | exact Take1.head | apply Take1.tail)))) (fun w hw => takeNil_any x w hw.left.here) rfl ?_ -- t16 (*hailer/merge.Book).Take
    rintro ⟨⟩ -
    dsimp only [List.cons_append, List.nil_append]
    refine WL.y (Yl.move rfl) rfl ?_ -- t13
    refine WL.y (Yl.extract rfl rfl) rfl ?_ -- t17
    refine WL.y (Yl.extract rfl rfl) rfl ?_ -- t18
    refine WL.y (Yl.assign rfl) rfl ?_ -- t7
    refine WL.y (Yl.assign rfl) rfl ?_ -- t8
    refine WL.nil ?_
    refine WC.seq ?_
    refine WC.region ?_
    refine WL.y (Yl.move rfl) rfl ?_ -- t19
    refine WL.nil ?_
    refine WC.condF rfl (by first | rfl | (simp; done) | (simp; omega)) ?_
    refine WC.skip ?_
    repeat (first | (with_reducible refine peelT ?_) | (with_reducible refine peelB ?_) | (with_reducible refine peelTX ?_) | (with_reducible refine peelBX ?_) | (with_reducible refine peelBN ?_) | (with_reducible refine peelBO rfl ?_))
    exact ⟨[blkR b2 26 [.pointer none], blkR b5 3 [.int .i64 0]], _, (by repeat (first | exact TakeL.nil | (apply TakeL.cons; · repeat (first | exact Take1.head | apply Take1.tail)))), (), trivial, rfl⟩
  · rintro ⟨⟩ D -
    dsimp only [List.cons_append, List.nil_append]
    refine WC.seq ?_
    refine WC.region ?_
    refine WL.y (Yl.load on3 rfl (by repeat (first | exact Take1.head | apply Take1.tail)) (by rfl)) rfl ?_ -- t22
    refine WL.y (Yl.assign rfl) rfl ?_ -- t4
    refine WL.nil ?_
    refine WC.ret ?_
    repeat (first | (with_reducible refine peelT ?_) | (with_reducible refine peelB ?_) | (with_reducible refine peelTX ?_) | (with_reducible refine peelBX ?_) | (with_reducible refine peelBN ?_) | (with_reducible refine peelBO rfl ?_))
    refine retM.of (.cons (by repeat (first | exact Take1.head | apply Take1.tail)) .nil) ?_
    exact ret1 (.inr rfl) Tryz.results23 rfl fun w' h => ⟨(), trivial, rfl, h.sub (by repeat (first | exact TakeL.nil | (apply TakeL.cons; · repeat (first | exact Take1.head | apply Take1.tail))))⟩
end Go.Proofs.YtmcdbjbkkejbbaaGreat
