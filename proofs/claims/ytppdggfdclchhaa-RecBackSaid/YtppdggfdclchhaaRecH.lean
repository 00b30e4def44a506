/- RecBack: the walk. -/
import Derived.Test.YtppdggfdclchhaaRecG
import Derived.Test.YtppdggfdclchhaaLibZ
namespace Go.Proofs.Ytppdggfdclchhaa
open Go Go.RowKit

def recsC (rs : List Rc) : List Value := (rs.map Rc.cells).flatten
theorem recsC_len {rs : List Rc} (h : ∀ r ∈ rs, r.ok) : (recsC rs).length = rs.length * 22 := by
  unfold recsC
  rw [flat_len (s := 22), List.length_map]
  intro xs hx
  obtain ⟨r, hr, rfl⟩ := List.mem_map.1 hx
  exact Rc.cells_len (h r hr).len
theorem recsC_at {rs : List Rc} (h : ∀ r ∈ rs, r.ok) {j : Nat} {r : Rc} (hj : rs[j]? = some r) : ((recsC rs).drop (j * 22)).take 22 = r.cells := by
  refine flat_chunk ?_ (by rw [List.getElem?_map, hj]; rfl)
  intro xs hx
  obtain ⟨r, hr, rfl⟩ := List.mem_map.1 hx
  exact Rc.cells_len (h r hr).len
theorem recsC_snoc (rs : List Rc) (r : Rc) : recsC rs ++ r.cells = recsC (rs ++ [r]) := by simp [recsC]
theorem recsC_ones (rs : List Rc) : ∀ v ∈ recsC rs, v.oneCell' = true := by
  intro v hv
  obtain ⟨l, hl, hv⟩ := List.mem_flatten.1 hv
  obtain ⟨r, _, rfl⟩ := List.mem_map.1 hl
  exact Rc.ones _ v hv
theorem recs_of {zs : List (List Value)} (h : ∀ xs ∈ zs, Fits1 rcLeaf xs ∧ xs.length = 22) : ∃ rs : List Rc, (∀ r ∈ rs, r.ok) ∧ rs.length = zs.length ∧ zs.flatten = recsC rs := by
  induction zs with
  | nil => exact ⟨[], (fun r hr => nomatch hr), rfl, rfl⟩
  | cons x zs ih =>
    obtain ⟨rs, h1, h2, h3⟩ := ih (fun y hy => h y (by simp [hy]))
    obtain ⟨r, hr, rfl⟩ := Rc.of_fits (h x (by simp)).1
    refine ⟨r :: rs, fun s hs => ?_, by simp [h2], by simp [recsC, h3]⟩
    rcases List.mem_cons.1 hs with rfl | hs
    · exact hr
    · exact h1 s hs
def keptTo (rs : List Rc) (j : Nat) : List Rc := (rs.take j).filter mayB
theorem keptTo_yes {rs : List Rc} {j : Nat} {r : Rc} (hj : rs[j]? = some r) (h : mayB r = true) : keptTo rs (j + 1) = keptTo rs j ++ [r] := by
  unfold keptTo
  rw [← take_snoc rs j r hj, List.filter_append]
  simp [h]
theorem keptTo_no {rs : List Rc} {j : Nat} {r : Rc} (hj : rs[j]? = some r) (h : mayB r = false) : keptTo rs (j + 1) = keptTo rs j := by
  unfold keptTo
  rw [← take_snoc rs j r hj, List.filter_append]
  simp [h]
theorem keptTo_ok {rs : List Rc} (h : ∀ r ∈ rs, r.ok) (j : Nat) : ∀ r ∈ keptTo rs j, r.ok ∧ mayB r = true := by
  intro r hr
  obtain ⟨h1, h2⟩ := List.mem_filter.1 hr
  exact ⟨h r (List.mem_of_mem_take h1), h2⟩
theorem keptTo_len (rs : List Rc) (j : Nat) : (keptTo rs j).length ≤ j := by
  have h1 := List.length_filter_le mayB (rs.take j)
  have h2 : (rs.take j).length ≤ j := by simp; omega
  unfold keptTo
  omega

theorem recBack_any (rs : List Rc) (hrs : ∀ r ∈ rs, r.ok) (lv : Value) (bs : List Int) (v : Value) (hB : Bytes bs) (w : World) (hw : OK w (fpL [rdR lv 22 rs.length (recsC rs), rdR v 1 bs.length (ints .u8 bs)]) [rdR lv 22 rs.length (recsC rs), rdR v 1 bs.length (ints .u8 bs)] w) :
    Fn Try.prog 6 [lv, v] [rdR lv 22 rs.length (recsC rs), rdR v 1 bs.length (ints .u8 bs)] w (fun _ : Unit => True) (fun _ => .bool true) (fun _ => []) := by
  obtain ⟨la, lc, rfl, hlcl, hlml⟩ := (hw.get .head).form
  obtain ⟨al, cl, rfl, hcl, hml⟩ := (hw.get (.tail .head)).form
  refine enterM Try.func6 rfl Try.ntmps6 rfl hw ?_
  refine WC.seq ?_
  refine WC.region ?_
  refine WL.to (To.alloc zr4 rfl) rfl ?_ -- t4
  intro b4
  refine WL.nil ?_
  refine WC.seq ?_
  refine WC.seq ?_
  refine WC.region ?_
  refine WL.callC (xs := []) (cap := []) rfl rfl en9 (by repeat (first | exact TakeL.nil | (apply TakeL.cons; · repeat (first | exact Take1.head | apply Take1.tail)))) (fun w hw => works_any w hw.left.here) rfl ?_ -- t19 hailer/hailerlaw11.works
  rintro ⟨⟩ -
  refine WL.y (Yl.not rfl) rfl ?_ -- t20
  refine WL.know (t := 20) (b' := false) rfl (by first | rfl | (simp; done) | (simp; omega)) ?_
  refine WL.nil ?_
  refine WC.condF rfl (by first | rfl | (simp; done) | (simp; omega)) ?_
  refine WC.skip ?_
  refine WC.seq ?_
  refine WC.seq ?_
  refine WC.region ?_
  refine WL.y (Yl.move rfl) rfl ?_ -- t21
  refine WL.y (Yl.len un27 rfl) rfl ?_ -- t22
  refine WL.y (Yl.gtr rfl rfl) rfl ?_ -- t23
  refine WL.y (Yl.move rfl) rfl ?_ -- t24
  refine WL.both (t := 24) rfl (fun g24 => ?_) (fun g24 => ?_)
  · refine WL.off rfl rfl rfl rfl ?_ -- t25
    refine WL.off rfl rfl rfl rfl ?_ -- t26
    refine WL.off rfl rfl rfl rfl ?_ -- t27
    refine WL.y (Yl.pickT rfl rfl) rfl ?_ -- t28
    refine WL.nil ?_
    refine WC.condT rfl (by first | rfl | (simp; done) | (simp; omega)) ?_
    refine WC.seq ?_
    refine WC.region ?_
    refine WL.sto (Sto.one sz4 rfl rfl (by repeat (first | exact Take1.head | apply Take1.tail)) rfl (by rfl) (by rfl)) (fun _ h => nomatch h) ?_ -- st 2
    refine WL.nil ?_
    refine WC.ret ?_
    repeat (first | (with_reducible refine peelT ?_) | (with_reducible refine peelB ?_) | (with_reducible refine peelTX ?_) | (with_reducible refine peelBX ?_) | (with_reducible refine peelBN ?_) | (with_reducible refine peelBO rfl ?_))
    refine retM.of .nil ?_
    exact retV1 (.inr rfl) Try.results6 on4 rfl (by repeat (first | exact Take1.head | apply Take1.tail)) fun w' h => ⟨(), trivial, rfl, h.sub (by repeat (first | exact TakeL.nil | (apply TakeL.cons; · repeat (first | exact Take1.head | apply Take1.tail))))⟩
  · refine WL.on rfl rfl ?_
    refine WL.y (Yl.move rfl) rfl ?_ -- t25
    refine WL.on rfl rfl ?_
    refine WL.y (Yl.len un28 rfl) rfl ?_ -- t26
    refine WL.on rfl rfl ?_
    refine WL.y (Yl.gtr rfl rfl) rfl ?_ -- t27
    refine WL.y (Yl.pickF rfl rfl) rfl ?_ -- t28
    refine WL.nil ?_
    refine WC.condD rfl (fun g28 => ?_) (fun g28 => ?_)
    · refine WC.seq ?_
      refine WC.region ?_
      refine WL.sto (Sto.one sz4 rfl rfl (by repeat (first | exact Take1.head | apply Take1.tail)) rfl (by rfl) (by rfl)) (fun _ h => nomatch h) ?_ -- st 2
      refine WL.nil ?_
      refine WC.ret ?_
      repeat (first | (with_reducible refine peelT ?_) | (with_reducible refine peelB ?_) | (with_reducible refine peelTX ?_) | (with_reducible refine peelBX ?_) | (with_reducible refine peelBN ?_) | (with_reducible refine peelBO rfl ?_))
      refine retM.of .nil ?_
      exact retV1 (.inr rfl) Try.results6 on4 rfl (by repeat (first | exact Take1.head | apply Take1.tail)) fun w' h => ⟨(), trivial, rfl, h.sub (by repeat (first | exact TakeL.nil | (apply TakeL.cons; · repeat (first | exact Take1.head | apply Take1.tail))))⟩
    · refine WC.skip ?_
      refine WC.seq ?_
      refine WC.region ?_
      refine WL.y (Yl.assign rfl) rfl ?_ -- t5
      refine WL.nil ?_
      refine WC.seq ?_
      refine WC.region ?_
      refine WL.to (To.alloc zr27 rfl) rfl ?_ -- t6
      intro b6
      refine WL.nil ?_
      refine WC.seq ?_
      refine WC.seq ?_
      refine WC.region ?_
      have hr100 : rs.length ≤ 100 := by have := of_decide_eq_false g24; omega
      have hb200 : bs.length ≤ 200 := by omega
      refine WL.y (Yl.move rfl) rfl ?_ -- t29
      refine WL.y (Yl.len un27 rfl) rfl ?_ -- t30
      refine WL.y (Yl.move rfl) rfl ?_ -- t31
      refine WL.nil ?_
      refine WC.block ?_
      refine WC.view (fun w h => (h.addNil 5 1).addNil 26 22) ?_
      refine WC.loop (α := Nat × (Option Addr × Nat) × (Option Addr × Nat)) (fun p => [(29, .slice la rs.length lc), (30, .int .i64 (rs.length : Int)), (31, .int .i64 (p.1 : Int)), (4, .pointer (some ⟨b4, 0, none⟩)), (5, .slice p.2.1.1 (allB (keptTo rs p.1)).length p.2.1.2), (6, .pointer (some ⟨b6, 0, none⟩)), (1, .slice al bs.length cl)]) (fun p => [ownR (.slice p.2.1.1 (allB (keptTo rs p.1)).length p.2.1.2) 5 1 (allB (keptTo rs p.1)).length (ints .u8 (allB (keptTo rs p.1))), ownR (.slice p.2.2.1 (keptTo rs p.1).length p.2.2.2) 26 22 (keptTo rs p.1).length (recsC (keptTo rs p.1)), blkR b6 27 [.slice p.2.2.1 (keptTo rs p.1).length p.2.2.2], blkR b4 4 [.bool false], rdR (.slice la rs.length lc) 22 rs.length (recsC rs), rdR (.slice al bs.length cl) 1 bs.length (ints .u8 bs)]) (fun p => p.1 ≤ rs.length) (fun p => rs.length - p.1) (0, (none, 0), (none, 0)) (Nat.zero_le _) ⟨(by repeat (first | exact Sub.nil | refine Sub.cons rfl ?_)), _, (by repeat (first | exact TakeL.nil | (apply TakeL.cons; · repeat (first | exact Take1.head | apply Take1.tail))))⟩ ?_
      rintro ⟨j, ⟨ao, c⟩, ⟨ko, kc⟩⟩ hj
      dsimp only at hj ⊢
      have hKok := keptTo_ok hrs j
      have hKl := keptTo_len rs j
      have hKb := allB_len (fun r hr => (hKok r hr).1)
      refine WC.seq ?_
      refine WC.region ?_
      refine WL.y (Yl.lss rfl rfl) rfl ?_ -- t32
      refine WL.nil ?_
      refine WC.seq ?_
      refine WC.condD rfl (fun g32 => ?_) (fun g32 => ?_)
      · refine WC.skip ?_
        refine WC.seq ?_
        refine WC.block ?_
        refine WC.seq ?_
        refine WC.region ?_
        obtain ⟨r, hjr⟩ : ∃ r, rs[j]? = some r := ⟨_, List.getElem?_eq_getElem (by omega)⟩
        have hr := hrs r (List.mem_of_getElem? hjr)
        have hlen := hr.len
        refine WL.y (Yl.index un27 sz26 rfl rfl (Reads.of RdOf.rd' (by repeat (first | exact Take1.head | apply Take1.tail))) rfl (by omega)) rfl ?_ -- t33
        refine WL.y (Yl.loadEN ag26 (by decide) rfl (Reads.of RdOf.rd' (by repeat (first | exact Take1.head | apply Take1.tail))) (by omega) (recsC_at hrs hjr)) rfl ?_ -- t34
        refine WL.to (To.alloc (cs := Rc.zero.cells) zr26 rfl) rfl ?_ -- t8
        intro b8
        refine WL.sto (Sto.agg sz26 rfl rfl (by repeat (first | exact Take1.head | apply Take1.tail)) (Rc.ones _) (Rc.cells_len hlen) (by rfl) (Rc.all (r := Rc.zero) rfl r.cells (Rc.cells_len hlen))) (fun _ h => nomatch h) ?_ -- st 3
        refine WL.nil ?_
        refine WC.seq ?_
        refine WC.region ?_
        refine WL.y (Yl.loadN ag26 rfl (by repeat (first | exact Take1.head | apply Take1.tail)) (leB (by rw [Rc.cells_len hlen]; omega)) (Rc.call hlen)) rfl ?_ -- t36
        refine WL.callC (xs := [.tmp 36]) (cap := []) rfl rfl en7 (by repeat (first | exact TakeL.nil | (apply TakeL.cons; · repeat (first | exact Take1.head | apply Take1.tail)))) (fun w hw => rput_any r hr w hw.left.here) rfl ?_ -- t37 hailer/rec.Put
        rintro ⟨a37, c37⟩ hc37
        dsimp only at hc37 ⊢
        refine WL.y (Yl.move rfl) rfl ?_ -- t35
        refine WL.y (Yl.extract rfl rfl) rfl ?_ -- t38
        refine WL.y (Yl.extract rfl rfl) rfl ?_ -- t39
        refine WL.y (Yl.assign rfl) rfl ?_ -- t9
        refine WL.y (Yl.assign rfl) rfl ?_ -- t10
        refine WL.nil ?_
        refine WC.seq ?_
        refine WC.seq ?_
        refine WC.region ?_
        refine WL.y (Yl.move rfl) rfl ?_ -- t40
        refine WL.y (Yl.neq rfl rfl) rfl ?_ -- t41
        refine WL.nil ?_
        refine WC.condD rfl (fun g41 => ?_) (fun g41 => ?_)
        · refine WC.exit ?_
          refine WC.region ?_
          refine WL.y (Yl.add rfl rfl (IntWalk.i64_in _ (by omega))) rfl ?_ -- t66
          refine WL.y (Yl.move rfl) rfl ?_ -- t31
          refine WL.nil ?_
          have hm : mayB r = false := by
            cases hm : mayB r
            · rfl
            · simp [errP_yes hm] at g41
          refine ⟨rfl, (j + 1, (ao, c), (ko, kc)), by dsimp only; omega, by dsimp only; omega, ?_⟩
          dsimp only
          rw [keptTo_no hjr hm]
          exact ⟨(by repeat (first | exact Sub.nil | refine Sub.cons rfl ?_)), _, (by repeat (first | exact TakeL.nil | (apply TakeL.cons; · repeat (first | exact Take1.head | apply Take1.tail))))⟩
        · refine WC.skip ?_
          refine WC.seq ?_
          refine WC.region ?_
          have hm : mayB r = true := by
            cases hm : mayB r
            · simp [errP_no hm] at g41
            · rfl
          rw [putB_yes hm] at hc37 ⊢
          rw [errP_yes hm]
          have hrB := recB_len hlen
          have hrT : recT (recB r) = (r, true) := by rw [recT_good (by rw [goodB_recB hr, hm]), recOf_recB hr]
          obtain ⟨K, hK⟩ : ∃ K, keptTo rs j = K := ⟨_, rfl⟩
          have hK2 : keptTo rs (j + 1) = K ++ [r] := by rw [keptTo_yes hjr hm, hK]
          rw [hK] at hKok hKl hKb ⊢
          have hKb2 : (allB (K ++ [r])).length = (allB K).length + (recB r).length := by rw [allB_snoc, List.length_append]
          refine WL.y (Yl.move rfl) rfl ?_ -- t43
          refine WL.callC (xs := [.tmp 43]) (cap := []) rfl rfl en8 (by repeat (first | exact TakeL.nil | (apply TakeL.cons; · repeat (first | exact Take1.head | apply Take1.tail)))) (fun w hw => rtakeP_any (recB r) _ (recB_bytes hr) (by omega) w (hw.src (A := []) RdOf.own (by repeat (first | exact Take1.head | apply Take1.tail))) hw.left.here) rfl ?_ -- t44 hailer/rec.Take
          rintro ⟨⟩ -
          rw [hrT]
          refine WL.y (Yl.move rfl) rfl ?_ -- t42
          refine WL.y (Yl.extract rfl rfl) rfl ?_ -- t45
          refine WL.y (Yl.extract rfl rfl) rfl ?_ -- t46
          refine WL.to (To.alloc (cs := Rc.zero.cells) zr26 rfl) rfl ?_ -- t11
          intro b11
          refine WL.sto (Sto.agg sz26 rfl rfl (by repeat (first | exact Take1.head | apply Take1.tail)) (Rc.ones _) (Rc.cells_len hlen) (by rfl) (Rc.all (r := Rc.zero) rfl r.cells (Rc.cells_len hlen))) (fun _ h => nomatch h) ?_ -- st 4
          refine WL.y (Yl.assign rfl) rfl ?_ -- t12
          refine WL.nil ?_
          refine WC.seq ?_
          refine WC.seq ?_
          refine WC.region ?_
          refine WL.y (Yl.move rfl) rfl ?_ -- t47
          refine WL.y (Yl.neq rfl rfl) rfl ?_ -- t48
          refine WL.know (t := 48) (b' := false) rfl (by simp [errT]) ?_
          refine WL.y (Yl.move rfl) rfl ?_ -- t49
          refine WL.on rfl rfl ?_
          refine WL.y (Yl.loadN ag26 rfl (by repeat (first | exact Take1.head | apply Take1.tail)) (leB (by rw [Rc.cells_len hlen]; omega)) (Rc.call hlen)) rfl ?_ -- t50
          refine WL.on rfl rfl ?_
          refine WL.y (Yl.loadN ag26 rfl (by repeat (first | exact Take1.head | apply Take1.tail)) (leB (by rw [Rc.cells_len hlen]; omega)) (Rc.call hlen)) rfl ?_ -- t51
          refine WL.on rfl rfl ?_
          refine WL.y (Yl.neA flRec rfl rfl hr.fits hr.fits) rfl ?_
          refine WL.know (t := 52) (b' := false) rfl (by simp [eqV_self]) ?_
          refine WL.y (Yl.pickF rfl rfl) rfl ?_ -- t53
          refine WL.y (Yl.move rfl) rfl ?_ -- t54
          refine WL.on rfl rfl ?_
          refine WL.y (Yl.move rfl) rfl ?_ -- t55
          refine WL.on rfl rfl ?_
          refine WL.y (Yl.len un28 rfl) rfl ?_ -- t56
          refine WL.on rfl rfl ?_
          refine WL.y (Yl.neq rfl rfl) rfl ?_ -- t57
          refine WL.know (t := 57) (b' := false) rfl (by simp [hrB]) ?_
          refine WL.y (Yl.pickF rfl rfl) rfl ?_ -- t58
          refine WL.nil ?_
          refine WC.condF rfl (by first | rfl | (simp; done) | (simp; omega)) ?_
          refine WC.skip ?_
          refine WC.drawAny (Hs := [blkR b8 26 r.cells]) mixed (by kernel_rfl) ⟨_, (by repeat (first | exact TakeL.nil | (apply TakeL.cons; · repeat (first | exact Take1.head | apply Take1.tail))))⟩ ?_
          refine WD.take 0 rfl (by kernel_rfl) (by kernel_rfl) (by kernel_rfl) rfl rfl (Yl.move rfl) rfl ?_ -- t59
          refine WD.take 1 rfl (by kernel_rfl) (by kernel_rfl) (by kernel_rfl) rfl rfl (Yl.move rfl) rfl ?_ -- t60
          refine WD.take 4 rfl (by kernel_rfl) (by kernel_rfl) (by kernel_rfl) rfl rfl (Yl.loadN ag26 rfl (by repeat (first | exact Take1.head | apply Take1.tail)) (leB (by rw [Rc.cells_len hlen]; omega)) (Rc.call hlen)) rfl ?_ -- t63
          refine WD.three 2 3 5 (by kernel_rfl) ?_ ?_ ?_
          · refine WO.to rfl rfl .no (To.append sl28 rfl rfl (by repeat (first | exact Take1.head | apply Take1.tail)) (Reads.of RdOf.own (by repeat (first | exact Take1.head | apply Take1.tail))) (ints_one _ _) hKb2.symm (show _ = ints .u8 (allB (K ++ [r])) by rw [allB_snoc]; simp [ints]) (by unfold maxLen; omega) (by omega)) rfl (fun _ => ⟨_, (by repeat (first | exact TakeL.nil | (apply TakeL.cons; · repeat (first | exact Take1.head | apply Take1.tail))))⟩) ?_ -- t61
            rintro ⟨⟨ao61, c61⟩, hc61⟩
            dsimp only at hc61 ⊢
            refine WD.two 3 5 (by kernel_rfl) ?_ ?_
            · refine WO.y rfl rfl .no (Yl.load on27 rfl (by repeat (first | exact Take1.head | apply Take1.tail)) (by rfl)) rfl ?_ -- t62
              refine WD.one 5 (by kernel_rfl) ?_
              refine WO.to rfl rfl .no (To.buildSlice (vs := [.agg r.cells.toArray]) un27 zs26 rfl rfl (by simp [Value.cells, Rc.cells_len hlen]) (by decide) (by decide)) rfl (fun _ => ⟨_, (by repeat (first | exact TakeL.nil | (apply TakeL.cons; · repeat (first | exact Take1.head | apply Take1.tail))))⟩) ?_ -- t64
              intro b64
              refine WD.one 6 (by kernel_rfl) ?_
              refine WO.to rfl rfl .no (To.append sl27 rfl rfl (by repeat (first | exact Take1.head | apply Take1.tail)) (Reads.of (RdOf.blk (size := 22) (cs := flat [.agg r.cells.toArray]) (cs' := r.cells) (Nat.le_refl _) (by unfold maxLen; omega) (by simp [flat, Value.cells, Rc.cells_len hlen]) (by simp [flat, Value.cells]; rw [List.take_of_length_le (by rw [Rc.cells_len hlen]; omega)])) (by repeat (first | exact Take1.head | apply Take1.tail))) (Rc.ones _) (show K.length + 1 = (K ++ [r]).length by simp) (recsC_snoc K r) (by unfold maxLen; simp; omega) (by simp; omega)) rfl (fun _ => ⟨_, (by repeat (first | exact TakeL.nil | (apply TakeL.cons; · repeat (first | exact Take1.head | apply Take1.tail))))⟩) ?_ -- t65
              rintro ⟨⟨ao65, c65⟩, hc65⟩
              dsimp only at hc65 ⊢
              refine WD.take 7 rfl (by kernel_rfl) (by kernel_rfl) (by kernel_rfl) rfl rfl (Yl.assign rfl) rfl ?_ -- t5
              refine WD.one 8 (by kernel_rfl) ?_
              refine WO.sto rfl rfl .no (Sto.one sz27 rfl rfl (by repeat (first | exact Take1.head | apply Take1.tail)) rfl (by rfl) (by rfl)) ⟨_, (by repeat (first | exact TakeL.nil | (apply TakeL.cons; · repeat (first | exact Take1.head | apply Take1.tail))))⟩ ?_ -- st 6
              refine WD.done (by kernel_rfl) ?_
              refine WC.region ?_
              refine WL.y (Yl.add rfl rfl (IntWalk.i64_in _ (by omega))) rfl ?_ -- t66
              refine WL.y (Yl.move rfl) rfl ?_ -- t31
              refine WL.nil ?_
              refine ⟨rfl, (j + 1, (ao61, c61), (ao65, c65)), by dsimp only; omega, by dsimp only; omega, ?_⟩
              dsimp only
              rw [hK2]
              exact ⟨(by repeat (first | exact Sub.nil | refine Sub.cons rfl ?_)), _, (by repeat (first | exact TakeL.nil | (apply TakeL.cons; · repeat (first | exact Take1.head | apply Take1.tail))))⟩
            · refine WO.to rfl rfl .no (To.buildSlice (vs := [.agg r.cells.toArray]) un27 zs26 rfl rfl (by simp [Value.cells, Rc.cells_len hlen]) (by decide) (by decide)) rfl (fun _ => ⟨_, (by repeat (first | exact TakeL.nil | (apply TakeL.cons; · repeat (first | exact Take1.head | apply Take1.tail))))⟩) ?_ -- t64
              intro b64
              refine WD.one 3 (by kernel_rfl) ?_
              refine WO.y rfl rfl .no (Yl.load on27 rfl (by repeat (first | exact Take1.head | apply Take1.tail)) (by rfl)) rfl ?_ -- t62
              refine WD.one 6 (by kernel_rfl) ?_
              refine WO.to rfl rfl .no (To.append sl27 rfl rfl (by repeat (first | exact Take1.head | apply Take1.tail)) (Reads.of (RdOf.blk (size := 22) (cs := flat [.agg r.cells.toArray]) (cs' := r.cells) (Nat.le_refl _) (by unfold maxLen; omega) (by simp [flat, Value.cells, Rc.cells_len hlen]) (by simp [flat, Value.cells]; rw [List.take_of_length_le (by rw [Rc.cells_len hlen]; omega)])) (by repeat (first | exact Take1.head | apply Take1.tail))) (Rc.ones _) (show K.length + 1 = (K ++ [r]).length by simp) (recsC_snoc K r) (by unfold maxLen; simp; omega) (by simp; omega)) rfl (fun _ => ⟨_, (by repeat (first | exact TakeL.nil | (apply TakeL.cons; · repeat (first | exact Take1.head | apply Take1.tail))))⟩) ?_ -- t65
              rintro ⟨⟨ao65, c65⟩, hc65⟩
              dsimp only at hc65 ⊢
              refine WD.take 7 rfl (by kernel_rfl) (by kernel_rfl) (by kernel_rfl) rfl rfl (Yl.assign rfl) rfl ?_ -- t5
              refine WD.one 8 (by kernel_rfl) ?_
              refine WO.sto rfl rfl .no (Sto.one sz27 rfl rfl (by repeat (first | exact Take1.head | apply Take1.tail)) rfl (by rfl) (by rfl)) ⟨_, (by repeat (first | exact TakeL.nil | (apply TakeL.cons; · repeat (first | exact Take1.head | apply Take1.tail))))⟩ ?_ -- st 6
              refine WD.done (by kernel_rfl) ?_
              refine WC.region ?_
              refine WL.y (Yl.add rfl rfl (IntWalk.i64_in _ (by omega))) rfl ?_ -- t66
              refine WL.y (Yl.move rfl) rfl ?_ -- t31
              refine WL.nil ?_
              refine ⟨rfl, (j + 1, (ao61, c61), (ao65, c65)), by dsimp only; omega, by dsimp only; omega, ?_⟩
              dsimp only
              rw [hK2]
              exact ⟨(by repeat (first | exact Sub.nil | refine Sub.cons rfl ?_)), _, (by repeat (first | exact TakeL.nil | (apply TakeL.cons; · repeat (first | exact Take1.head | apply Take1.tail))))⟩
          · refine WO.y rfl rfl .no (Yl.load on27 rfl (by repeat (first | exact Take1.head | apply Take1.tail)) (by rfl)) rfl ?_ -- t62
            refine WD.two 2 5 (by kernel_rfl) ?_ ?_
            · refine WO.to rfl rfl .no (To.append sl28 rfl rfl (by repeat (first | exact Take1.head | apply Take1.tail)) (Reads.of RdOf.own (by repeat (first | exact Take1.head | apply Take1.tail))) (ints_one _ _) hKb2.symm (show _ = ints .u8 (allB (K ++ [r])) by rw [allB_snoc]; simp [ints]) (by unfold maxLen; omega) (by omega)) rfl (fun _ => ⟨_, (by repeat (first | exact TakeL.nil | (apply TakeL.cons; · repeat (first | exact Take1.head | apply Take1.tail))))⟩) ?_ -- t61
              rintro ⟨⟨ao61, c61⟩, hc61⟩
              dsimp only at hc61 ⊢
              refine WD.one 5 (by kernel_rfl) ?_
              refine WO.to rfl rfl .no (To.buildSlice (vs := [.agg r.cells.toArray]) un27 zs26 rfl rfl (by simp [Value.cells, Rc.cells_len hlen]) (by decide) (by decide)) rfl (fun _ => ⟨_, (by repeat (first | exact TakeL.nil | (apply TakeL.cons; · repeat (first | exact Take1.head | apply Take1.tail))))⟩) ?_ -- t64
              intro b64
              refine WD.one 6 (by kernel_rfl) ?_
              refine WO.to rfl rfl .no (To.append sl27 rfl rfl (by repeat (first | exact Take1.head | apply Take1.tail)) (Reads.of (RdOf.blk (size := 22) (cs := flat [.agg r.cells.toArray]) (cs' := r.cells) (Nat.le_refl _) (by unfold maxLen; omega) (by simp [flat, Value.cells, Rc.cells_len hlen]) (by simp [flat, Value.cells]; rw [List.take_of_length_le (by rw [Rc.cells_len hlen]; omega)])) (by repeat (first | exact Take1.head | apply Take1.tail))) (Rc.ones _) (show K.length + 1 = (K ++ [r]).length by simp) (recsC_snoc K r) (by unfold maxLen; simp; omega) (by simp; omega)) rfl (fun _ => ⟨_, (by repeat (first | exact TakeL.nil | (apply TakeL.cons; · repeat (first | exact Take1.head | apply Take1.tail))))⟩) ?_ -- t65
              rintro ⟨⟨ao65, c65⟩, hc65⟩
              dsimp only at hc65 ⊢
              refine WD.take 7 rfl (by kernel_rfl) (by kernel_rfl) (by kernel_rfl) rfl rfl (Yl.assign rfl) rfl ?_ -- t5
              refine WD.one 8 (by kernel_rfl) ?_
              refine WO.sto rfl rfl .no (Sto.one sz27 rfl rfl (by repeat (first | exact Take1.head | apply Take1.tail)) rfl (by rfl) (by rfl)) ⟨_, (by repeat (first | exact TakeL.nil | (apply TakeL.cons; · repeat (first | exact Take1.head | apply Take1.tail))))⟩ ?_ -- st 6
              refine WD.done (by kernel_rfl) ?_
              refine WC.region ?_
              refine WL.y (Yl.add rfl rfl (IntWalk.i64_in _ (by omega))) rfl ?_ -- t66
              refine WL.y (Yl.move rfl) rfl ?_ -- t31
              refine WL.nil ?_
              refine ⟨rfl, (j + 1, (ao61, c61), (ao65, c65)), by dsimp only; omega, by dsimp only; omega, ?_⟩
              dsimp only
              rw [hK2]
              exact ⟨(by repeat (first | exact Sub.nil | refine Sub.cons rfl ?_)), _, (by repeat (first | exact TakeL.nil | (apply TakeL.cons; · repeat (first | exact Take1.head | apply Take1.tail))))⟩
            · refine WO.to rfl rfl .no (To.buildSlice (vs := [.agg r.cells.toArray]) un27 zs26 rfl rfl (by simp [Value.cells, Rc.cells_len hlen]) (by decide) (by decide)) rfl (fun _ => ⟨_, (by repeat (first | exact TakeL.nil | (apply TakeL.cons; · repeat (first | exact Take1.head | apply Take1.tail))))⟩) ?_ -- t64
              intro b64
              refine WD.one 2 (by kernel_rfl) ?_
              refine WO.to rfl rfl .no (To.append sl28 rfl rfl (by repeat (first | exact Take1.head | apply Take1.tail)) (Reads.of RdOf.own (by repeat (first | exact Take1.head | apply Take1.tail))) (ints_one _ _) hKb2.symm (show _ = ints .u8 (allB (K ++ [r])) by rw [allB_snoc]; simp [ints]) (by unfold maxLen; omega) (by omega)) rfl (fun _ => ⟨_, (by repeat (first | exact TakeL.nil | (apply TakeL.cons; · repeat (first | exact Take1.head | apply Take1.tail))))⟩) ?_ -- t61
              rintro ⟨⟨ao61, c61⟩, hc61⟩
              dsimp only at hc61 ⊢
              refine WD.one 6 (by kernel_rfl) ?_
              refine WO.to rfl rfl .no (To.append sl27 rfl rfl (by repeat (first | exact Take1.head | apply Take1.tail)) (Reads.of (RdOf.blk (size := 22) (cs := flat [.agg r.cells.toArray]) (cs' := r.cells) (Nat.le_refl _) (by unfold maxLen; omega) (by simp [flat, Value.cells, Rc.cells_len hlen]) (by simp [flat, Value.cells]; rw [List.take_of_length_le (by rw [Rc.cells_len hlen]; omega)])) (by repeat (first | exact Take1.head | apply Take1.tail))) (Rc.ones _) (show K.length + 1 = (K ++ [r]).length by simp) (recsC_snoc K r) (by unfold maxLen; simp; omega) (by simp; omega)) rfl (fun _ => ⟨_, (by repeat (first | exact TakeL.nil | (apply TakeL.cons; · repeat (first | exact Take1.head | apply Take1.tail))))⟩) ?_ -- t65
              rintro ⟨⟨ao65, c65⟩, hc65⟩
              dsimp only at hc65 ⊢
              refine WD.take 7 rfl (by kernel_rfl) (by kernel_rfl) (by kernel_rfl) rfl rfl (Yl.assign rfl) rfl ?_ -- t5
              refine WD.one 8 (by kernel_rfl) ?_
              refine WO.sto rfl rfl .no (Sto.one sz27 rfl rfl (by repeat (first | exact Take1.head | apply Take1.tail)) rfl (by rfl) (by rfl)) ⟨_, (by repeat (first | exact TakeL.nil | (apply TakeL.cons; · repeat (first | exact Take1.head | apply Take1.tail))))⟩ ?_ -- st 6
              refine WD.done (by kernel_rfl) ?_
              refine WC.region ?_
              refine WL.y (Yl.add rfl rfl (IntWalk.i64_in _ (by omega))) rfl ?_ -- t66
              refine WL.y (Yl.move rfl) rfl ?_ -- t31
              refine WL.nil ?_
              refine ⟨rfl, (j + 1, (ao61, c61), (ao65, c65)), by dsimp only; omega, by dsimp only; omega, ?_⟩
              dsimp only
              rw [hK2]
              exact ⟨(by repeat (first | exact Sub.nil | refine Sub.cons rfl ?_)), _, (by repeat (first | exact TakeL.nil | (apply TakeL.cons; · repeat (first | exact Take1.head | apply Take1.tail))))⟩
          · refine WO.to rfl rfl .no (To.buildSlice (vs := [.agg r.cells.toArray]) un27 zs26 rfl rfl (by simp [Value.cells, Rc.cells_len hlen]) (by decide) (by decide)) rfl (fun _ => ⟨_, (by repeat (first | exact TakeL.nil | (apply TakeL.cons; · repeat (first | exact Take1.head | apply Take1.tail))))⟩) ?_ -- t64
            intro b64
            refine WD.two 2 3 (by kernel_rfl) ?_ ?_
            · refine WO.to rfl rfl .no (To.append sl28 rfl rfl (by repeat (first | exact Take1.head | apply Take1.tail)) (Reads.of RdOf.own (by repeat (first | exact Take1.head | apply Take1.tail))) (ints_one _ _) hKb2.symm (show _ = ints .u8 (allB (K ++ [r])) by rw [allB_snoc]; simp [ints]) (by unfold maxLen; omega) (by omega)) rfl (fun _ => ⟨_, (by repeat (first | exact TakeL.nil | (apply TakeL.cons; · repeat (first | exact Take1.head | apply Take1.tail))))⟩) ?_ -- t61
              rintro ⟨⟨ao61, c61⟩, hc61⟩
              dsimp only at hc61 ⊢
              refine WD.one 3 (by kernel_rfl) ?_
              refine WO.y rfl rfl .no (Yl.load on27 rfl (by repeat (first | exact Take1.head | apply Take1.tail)) (by rfl)) rfl ?_ -- t62
              refine WD.one 6 (by kernel_rfl) ?_
              refine WO.to rfl rfl .no (To.append sl27 rfl rfl (by repeat (first | exact Take1.head | apply Take1.tail)) (Reads.of (RdOf.blk (size := 22) (cs := flat [.agg r.cells.toArray]) (cs' := r.cells) (Nat.le_refl _) (by unfold maxLen; omega) (by simp [flat, Value.cells, Rc.cells_len hlen]) (by simp [flat, Value.cells]; rw [List.take_of_length_le (by rw [Rc.cells_len hlen]; omega)])) (by repeat (first | exact Take1.head | apply Take1.tail))) (Rc.ones _) (show K.length + 1 = (K ++ [r]).length by simp) (recsC_snoc K r) (by unfold maxLen; simp; omega) (by simp; omega)) rfl (fun _ => ⟨_, (by repeat (first | exact TakeL.nil | (apply TakeL.cons; · repeat (first | exact Take1.head | apply Take1.tail))))⟩) ?_ -- t65
              rintro ⟨⟨ao65, c65⟩, hc65⟩
              dsimp only at hc65 ⊢
              refine WD.take 7 rfl (by kernel_rfl) (by kernel_rfl) (by kernel_rfl) rfl rfl (Yl.assign rfl) rfl ?_ -- t5
              refine WD.one 8 (by kernel_rfl) ?_
              refine WO.sto rfl rfl .no (Sto.one sz27 rfl rfl (by repeat (first | exact Take1.head | apply Take1.tail)) rfl (by rfl) (by rfl)) ⟨_, (by repeat (first | exact TakeL.nil | (apply TakeL.cons; · repeat (first | exact Take1.head | apply Take1.tail))))⟩ ?_ -- st 6
              refine WD.done (by kernel_rfl) ?_
              refine WC.region ?_
              refine WL.y (Yl.add rfl rfl (IntWalk.i64_in _ (by omega))) rfl ?_ -- t66
              refine WL.y (Yl.move rfl) rfl ?_ -- t31
              refine WL.nil ?_
              refine ⟨rfl, (j + 1, (ao61, c61), (ao65, c65)), by dsimp only; omega, by dsimp only; omega, ?_⟩
              dsimp only
              rw [hK2]
              exact ⟨(by repeat (first | exact Sub.nil | refine Sub.cons rfl ?_)), _, (by repeat (first | exact TakeL.nil | (apply TakeL.cons; · repeat (first | exact Take1.head | apply Take1.tail))))⟩
            · refine WO.y rfl rfl .no (Yl.load on27 rfl (by repeat (first | exact Take1.head | apply Take1.tail)) (by rfl)) rfl ?_ -- t62
              refine WD.one 2 (by kernel_rfl) ?_
              refine WO.to rfl rfl .no (To.append sl28 rfl rfl (by repeat (first | exact Take1.head | apply Take1.tail)) (Reads.of RdOf.own (by repeat (first | exact Take1.head | apply Take1.tail))) (ints_one _ _) hKb2.symm (show _ = ints .u8 (allB (K ++ [r])) by rw [allB_snoc]; simp [ints]) (by unfold maxLen; omega) (by omega)) rfl (fun _ => ⟨_, (by repeat (first | exact TakeL.nil | (apply TakeL.cons; · repeat (first | exact Take1.head | apply Take1.tail))))⟩) ?_ -- t61
              rintro ⟨⟨ao61, c61⟩, hc61⟩
              dsimp only at hc61 ⊢
              refine WD.one 6 (by kernel_rfl) ?_
              refine WO.to rfl rfl .no (To.append sl27 rfl rfl (by repeat (first | exact Take1.head | apply Take1.tail)) (Reads.of (RdOf.blk (size := 22) (cs := flat [.agg r.cells.toArray]) (cs' := r.cells) (Nat.le_refl _) (by unfold maxLen; omega) (by simp [flat, Value.cells, Rc.cells_len hlen]) (by simp [flat, Value.cells]; rw [List.take_of_length_le (by rw [Rc.cells_len hlen]; omega)])) (by repeat (first | exact Take1.head | apply Take1.tail))) (Rc.ones _) (show K.length + 1 = (K ++ [r]).length by simp) (recsC_snoc K r) (by unfold maxLen; simp; omega) (by simp; omega)) rfl (fun _ => ⟨_, (by repeat (first | exact TakeL.nil | (apply TakeL.cons; · repeat (first | exact Take1.head | apply Take1.tail))))⟩) ?_ -- t65
              rintro ⟨⟨ao65, c65⟩, hc65⟩
              dsimp only at hc65 ⊢
              refine WD.take 7 rfl (by kernel_rfl) (by kernel_rfl) (by kernel_rfl) rfl rfl (Yl.assign rfl) rfl ?_ -- t5
              refine WD.one 8 (by kernel_rfl) ?_
              refine WO.sto rfl rfl .no (Sto.one sz27 rfl rfl (by repeat (first | exact Take1.head | apply Take1.tail)) rfl (by rfl) (by rfl)) ⟨_, (by repeat (first | exact TakeL.nil | (apply TakeL.cons; · repeat (first | exact Take1.head | apply Take1.tail))))⟩ ?_ -- st 6
              refine WD.done (by kernel_rfl) ?_
              refine WC.region ?_
              refine WL.y (Yl.add rfl rfl (IntWalk.i64_in _ (by omega))) rfl ?_ -- t66
              refine WL.y (Yl.move rfl) rfl ?_ -- t31
              refine WL.nil ?_
              refine ⟨rfl, (j + 1, (ao61, c61), (ao65, c65)), by dsimp only; omega, by dsimp only; omega, ?_⟩
              dsimp only
              rw [hK2]
              exact ⟨(by repeat (first | exact Sub.nil | refine Sub.cons rfl ?_)), _, (by repeat (first | exact TakeL.nil | (apply TakeL.cons; · repeat (first | exact Take1.head | apply Take1.tail))))⟩
      · refine WC.exit ?_
        refine WC.seq ?_
        refine WC.region ?_
        obtain ⟨K, hK⟩ : ∃ K, keptTo rs j = K := ⟨_, rfl⟩
        rw [hK] at hKok hKl hKb ⊢
        have hN : recN (allB K) = K.length := by have := allB_recN hKok (tl := []) (by simp); rwa [List.append_nil] at this
        refine WL.to (To.alloc zr3 rfl) rfl ?_ -- t13
        intro b13
        refine WL.sto (Sto.one sz3 rfl rfl (by repeat (first | exact Take1.head | apply Take1.tail)) rfl (by rfl) (by rfl)) (fun _ h => nomatch h) ?_ -- st 7
        refine WL.nil ?_
        refine WC.seq ?_
        refine WC.seq ?_
        refine WC.region ?_
        refine WL.y (Yl.move rfl) rfl ?_ -- t67
        refine WL.view (fun w h => h.readOnly (v := .slice ao (allB K).length c) (by repeat (first | exact Take1.head | apply Take1.tail))) ?_
        refine WL.callC (xs := [.tmp 67]) (cap := []) rfl rfl en15 (by repeat (first | exact TakeL.nil | (apply TakeL.cons; · repeat (first | exact Take1.head | apply Take1.tail)))) (fun w hw => recAll_any (allB K) _ (allB_bytes (fun r hr => (hKok r hr).1)) (by omega) w hw.left.here) rfl ?_ -- t68 hailer/rec.All
        rintro ⟨bb, own⟩ -
        refine WL.nil ?_
        refine WC.block ?_
        refine WC.range (α := Unit) (xs := recYs (allB K)) (fun i _ => [blkR b13 3 [.int .i64 ((i : Nat) : Int)], blkR b6 27 [.slice ko K.length kc], ownR (.slice ko K.length kc) 26 22 K.length (recsC K), blkR b4 4 [.bool false], rdR (.slice al bs.length cl) 1 bs.length (ints .u8 bs)]) (fun _ _ => True) () rfl en33 recYs_size rfl (by repeat (first | exact Take1.head | apply Take1.tail)) trivial (by repeat (first | exact TakeL.nil | (apply TakeL.cons; · repeat (first | exact Take1.head | apply Take1.tail)))) ?_ ?_
        · intro l i x _ hx _ W
          obtain ⟨hi, rfl⟩ := recYs_at hx
          rw [hN] at hi
          obtain ⟨r, hir⟩ : ∃ r, K[i]? = some r := ⟨_, List.getElem?_eq_getElem hi⟩
          have hr := (hKok r (List.mem_of_getElem? hir)).1
          have hlen := hr.len
          have hat : recAt (allB K) i = r := by
            have := allB_at (fun r hr => (hKok r hr).1) [] hi
            rw [List.append_nil] at this
            rw [this]
            exact (List.getElem?_eq_some_iff.1 hir).2
          show WC _ _ _ ((70, .agg (recAt (allB K) i).cells.toArray) :: (69, .int .i64 ((43 * i : Nat) : Int)) :: _) _ _
          rw [hat]
          refine WC.seq ?_
          refine WC.region ?_
          refine WL.y (Yl.assign rfl) rfl ?_ -- t14
          refine WL.nil ?_
          refine WC.region ?_
          refine WL.to (To.alloc (cs := Rc.zero.cells) zr26 rfl) rfl ?_ -- t15
          intro b15
          refine WL.sto (Sto.agg sz26 rfl rfl (by repeat (first | exact Take1.head | apply Take1.tail)) (Rc.ones _) (Rc.cells_len hlen) (by rfl) (Rc.all (r := Rc.zero) rfl r.cells (Rc.cells_len hlen))) (fun _ h => nomatch h) ?_ -- st 8
          refine WL.nil ?_
          repeat (first | (with_reducible refine peelT ?_) | (with_reducible refine peelB ?_) | (with_reducible refine peelTX ?_) | (with_reducible refine peelBX ?_) | (with_reducible refine peelBN ?_) | (with_reducible refine peelBO rfl ?_))
          refine fun W2 => ?_
          refine WC.block ?_
          refine WC.seq ?_
          refine WC.seq ?_
          refine WC.drawRead mixed (by kernel_rfl) ?_
          refine WH.y (Yl.load on3 rfl (by repeat (first | exact Take1.head | apply Take1.tail)) (by rfl)) rfl ?_ -- t71
          refine WH.y (Yl.load on27 rfl (by repeat (first | exact Take1.head | apply Take1.tail)) (by rfl)) rfl ?_ -- t72
          refine WH.y (Yl.len un27 rfl) rfl ?_ -- t73
          refine WH.y (Yl.geq rfl rfl) rfl ?_ -- t74
          refine WH.know (t := 74) (b' := false) rfl (decide_eq_false (by omega)) ?_
          refine WH.y (Yl.move rfl) rfl ?_ -- t75
          refine WH.on rfl rfl ?_
          refine WH.y (Yl.move rfl) rfl ?_ -- t76
          refine WH.on rfl rfl ?_
          refine WH.y (Yl.load on3 rfl (by repeat (first | exact Take1.head | apply Take1.tail)) (by rfl)) rfl ?_ -- t77
          refine WH.on rfl rfl ?_
          refine WH.y (Yl.mul rfl rfl (IntWalk.i64_in _ (by omega))) rfl ?_ -- t78
          refine WH.on rfl rfl ?_
          refine WH.y (Yl.neq rfl rfl) rfl ?_ -- t79
          refine WH.know (t := 79) (b' := false) rfl (decide_eq_false (by omega)) ?_
          refine WH.y (Yl.pickF rfl rfl) rfl ?_ -- t80
          refine WH.y (Yl.move rfl) rfl ?_ -- t81
          refine WH.on rfl rfl ?_
          refine WH.y (Yl.loadN ag26 rfl (by repeat (first | exact Take1.head | apply Take1.tail)) (leB (by rw [Rc.cells_len hlen]; omega)) (Rc.call hlen)) rfl ?_ -- t82
          refine WH.on rfl rfl ?_
          refine WH.y (Yl.load on27 rfl (by repeat (first | exact Take1.head | apply Take1.tail)) (by rfl)) rfl ?_ -- t83
          refine WH.on rfl rfl ?_
          refine WH.y (Yl.load on3 rfl (by repeat (first | exact Take1.head | apply Take1.tail)) (by rfl)) rfl ?_ -- t84
          refine WH.on rfl rfl ?_
          refine WH.y (Yl.index un27 sz26 rfl rfl (Reads.of RdOf.own (by repeat (first | exact Take1.head | apply Take1.tail))) rfl (by omega)) rfl ?_ -- t85
          refine WH.on rfl rfl ?_
          refine WH.y (Yl.loadEN ag26 (by decide) rfl (Reads.of RdOf.own (by repeat (first | exact Take1.head | apply Take1.tail))) (by omega) (recsC_at (fun r hr => (hKok r hr).1) hir)) rfl ?_ -- t86
          refine WH.on rfl rfl ?_
          refine WH.y (Yl.neA flRec rfl rfl hr.fits hr.fits) rfl ?_
          refine WH.know (t := 87) (b' := false) rfl (by simp [eqV_self]) ?_
          refine WH.y (Yl.pickF rfl rfl) rfl ?_ -- t88
          refine WH.nil ?_
          refine WC.condF rfl (by first | rfl | (simp; done) | (simp; omega)) ?_
          refine WC.skip ?_
          refine WC.region ?_
          refine WL.y (Yl.load on3 rfl (by repeat (first | exact Take1.head | apply Take1.tail)) (by rfl)) rfl ?_ -- t89
          refine WL.y (Yl.add rfl rfl (IntWalk.i64_in _ (by omega))) rfl ?_ -- t90
          refine WL.sto (Sto.one sz3 rfl rfl (by repeat (first | exact Take1.head | apply Take1.tail)) rfl (by rfl) (by rfl)) (fun _ h => nomatch h) ?_ -- st 10
          refine WL.nil ?_
          repeat (first | (with_reducible refine peelT ?_) | (with_reducible refine peelB ?_) | (with_reducible refine peelTX ?_) | (with_reducible refine peelBX ?_) | (with_reducible refine peelBN ?_) | (with_reducible refine peelBO rfl ?_))
          exact ⟨[blkR b13 3 [.int .i64 ((i : Int) + 1)], blkR b6 27 [.slice ko K.length kc], ownR (.slice ko K.length kc) 26 22 K.length (recsC K), blkR b4 4 [.bool false], rdR (.slice al bs.length cl) 1 bs.length (ints .u8 bs)], _, (by repeat (first | exact TakeL.nil | (apply TakeL.cons; · repeat (first | exact Take1.head | apply Take1.tail)))), (), trivial, rfl⟩
        · rintro _ D -
          rw [recYs_len, hN]
          dsimp only [List.cons_append, List.nil_append]
          refine WC.seq ?_
          refine WC.seq ?_
          refine WC.region ?_
          refine WL.y (Yl.load on3 rfl (by repeat (first | exact Take1.head | apply Take1.tail)) (by rfl)) rfl ?_ -- t91
          refine WL.y (Yl.load on27 rfl (by repeat (first | exact Take1.head | apply Take1.tail)) (by rfl)) rfl ?_ -- t92
          refine WL.y (Yl.len un27 rfl) rfl ?_ -- t93
          refine WL.y (Yl.neq rfl rfl) rfl ?_ -- t94
          refine WL.know (t := 94) (b' := false) rfl (by simp) ?_
          refine WL.nil ?_
          refine WC.condF rfl (by first | rfl | (simp; done) | (simp; omega)) ?_
          refine WC.skip ?_
          refine WC.seq ?_
          refine WC.region ?_
          have htok := recT_ok hB
          refine WL.y (Yl.move rfl) rfl ?_ -- t96
          refine WL.callC (xs := [.tmp 96]) (cap := []) rfl rfl en8 (by repeat (first | exact TakeL.nil | (apply TakeL.cons; · repeat (first | exact Take1.head | apply Take1.tail)))) (fun w hw => rtakeP_any bs _ hB (by omega) w (hw.src (A := []) RdOf.rd' (by repeat (first | exact Take1.head | apply Take1.tail))) hw.left.here) rfl ?_ -- t97 hailer/rec.Take
          rintro ⟨⟩ -
          refine WL.y (Yl.move rfl) rfl ?_ -- t95
          refine WL.y (Yl.extract rfl rfl) rfl ?_ -- t98
          refine WL.y (Yl.extract rfl rfl) rfl ?_ -- t99
          refine WL.to (To.alloc (cs := Rc.zero.cells) zr26 rfl) rfl ?_ -- t16
          intro b16
          refine WL.sto (Sto.agg sz26 rfl rfl (by repeat (first | exact Take1.head | apply Take1.tail)) (Rc.ones _) (Rc.cells_len htok.len) (by rfl) (Rc.all (r := Rc.zero) rfl (recT bs).1.cells (Rc.cells_len htok.len))) (fun _ h => nomatch h) ?_ -- st 12
          refine WL.y (Yl.assign rfl) rfl ?_ -- t17
          refine WL.nil ?_
          refine WC.seq ?_
          refine WC.seq ?_
          refine WC.region ?_
          refine WL.y (Yl.move rfl) rfl ?_ -- t100
          refine WL.y (Yl.neq rfl rfl) rfl ?_ -- t101
          refine WL.nil ?_
          refine WC.condD rfl (fun g101 => ?_) (fun g101 => ?_)
          · refine WC.seq ?_
            refine WC.region ?_
            have hbad : goodB bs = false := by
              cases hg : goodB bs
              · rfl
              · rw [recT_good hg] at g101; simp [errT] at g101
            refine WL.y (Yl.loadN ag26 rfl (by repeat (first | exact Take1.head | apply Take1.tail)) (leB (by rw [Rc.cells_len htok.len]; omega)) (Rc.call htok.len)) rfl ?_ -- t102
            refine WL.y (Yl.build rfl (cs := Rc.zero.cells) (fun _ => by kernel_rfl)) rfl ?_ -- t103
            refine WL.y (Yl.eqA flRec rfl rfl htok.fits zero_ok.fits) rfl ?_
            refine WL.know (t := 104) (b' := true) rfl (by rw [recT_bad hbad]; exact eqV_self _) ?_
            refine WL.sto (Sto.one sz4 rfl rfl (by repeat (first | exact Take1.head | apply Take1.tail)) rfl (by rfl) (by rfl)) (fun _ h => nomatch h) ?_ -- st 13
            refine WL.nil ?_
            refine WC.ret ?_
            repeat (first | (with_reducible refine peelT ?_) | (with_reducible refine peelB ?_) | (with_reducible refine peelTX ?_) | (with_reducible refine peelBX ?_) | (with_reducible refine peelBN ?_) | (with_reducible refine peelBO rfl ?_))
            refine retM.of (.cons (by repeat (first | exact Take1.head | apply Take1.tail)) .nil) ?_
            exact retV1 (.inr rfl) Try.results6 on4 rfl (by repeat (first | exact Take1.head | apply Take1.tail)) fun w' h => ⟨(), trivial, rfl, h.sub (by repeat (first | exact TakeL.nil | (apply TakeL.cons; · repeat (first | exact Take1.head | apply Take1.tail))))⟩
          · refine WC.skip ?_
            refine WC.seq ?_
            refine WC.region ?_
            have hgood : goodB bs = true := by
              cases hg : goodB bs
              · rw [recT_bad hg] at g101; simp [errT] at g101
              · rfl
            have hm2 : mayB (recOf bs) = true := by
              have := hgood
              simp [goodB] at this
              exact this.2
            rw [recT_good hgood] at htok ⊢
            dsimp only at htok ⊢
            refine WL.y (Yl.loadN ag26 rfl (by repeat (first | exact Take1.head | apply Take1.tail)) (leB (by rw [Rc.cells_len htok.len]; omega)) (Rc.call htok.len)) rfl ?_ -- t106
            refine WL.callC (xs := [.tmp 106]) (cap := []) rfl rfl en7 (by repeat (first | exact TakeL.nil | (apply TakeL.cons; · repeat (first | exact Take1.head | apply Take1.tail)))) (fun w hw => rput_any (recOf bs) htok w hw.left.here) rfl ?_ -- t107 hailer/rec.Put
            rintro ⟨a107, c107⟩ hc107
            dsimp only at hc107 ⊢
            refine WL.y (Yl.move rfl) rfl ?_ -- t105
            refine WL.y (Yl.extract rfl rfl) rfl ?_ -- t108
            refine WL.y (Yl.extract rfl rfl) rfl ?_ -- t109
            refine WL.y (Yl.assign rfl) rfl ?_ -- t18
            refine WL.y (Yl.assign rfl) rfl ?_ -- t17
            refine WL.nil ?_
            refine WC.seq ?_
            refine WC.region ?_
            refine WL.y (Yl.move rfl) rfl ?_ -- t110
            refine WL.y (Yl.eql rfl rfl) rfl ?_ -- t111
            refine WL.know (t := 111) (b' := true) rfl (by simp [errP_yes hm2]) ?_
            refine WL.y (Yl.move rfl) rfl ?_ -- t112
            refine WL.on rfl rfl ?_
            refine WL.y (Yl.move rfl) rfl ?_ -- t113
            refine WL.on rfl rfl ?_
            refine WL.y (Yl.toStr un28 un5 un9 rfl (Reads.of RdOf.own (by repeat (first | exact Take1.head | apply Take1.tail)))) rfl ?_ -- t114
            refine WL.on rfl rfl ?_
            refine WL.y (Yl.move rfl) rfl ?_ -- t115
            refine WL.on rfl rfl ?_
            refine WL.y (Yl.toStr un28 un5 un9 rfl (Reads.of RdOf.rd' (by repeat (first | exact Take1.head | apply Take1.tail)))) rfl ?_ -- t116
            refine WL.on rfl rfl ?_
            refine WL.y (Yl.sEq rfl rfl) rfl ?_ -- t117
            refine WL.know (t := 117) (b' := true) rfl (by rw [putB_yes hm2, recB_recOf hB hgood]; simp) ?_
            refine WL.y (Yl.pickT rfl rfl) rfl ?_ -- t118
            refine WL.sto (Sto.one sz4 rfl rfl (by repeat (first | exact Take1.head | apply Take1.tail)) rfl (by rfl) (by rfl)) (fun _ h => nomatch h) ?_ -- st 14
            refine WL.nil ?_
            refine WC.ret ?_
            repeat (first | (with_reducible refine peelT ?_) | (with_reducible refine peelB ?_) | (with_reducible refine peelTX ?_) | (with_reducible refine peelBX ?_) | (with_reducible refine peelBN ?_) | (with_reducible refine peelBO rfl ?_))
            refine retM.of (.cons (by repeat (first | exact Take1.head | apply Take1.tail)) .nil) ?_
            exact retV1 (.inr rfl) Try.results6 on4 rfl (by repeat (first | exact Take1.head | apply Take1.tail)) fun w' h => ⟨(), trivial, rfl, h.sub (by repeat (first | exact TakeL.nil | (apply TakeL.cons; · repeat (first | exact Take1.head | apply Take1.tail))))⟩
end Go.Proofs.Ytppdggfdclchhaa
