/- The document's public, ready, Can: the walks. -/
import Derived.Test.YtifhkjcimhhaiaaTerY
namespace Go.Proofs.Ytifhkjcimhhaiaa
open Go Go.RowKit
theorem pubB_t {p : List Nd} {c : List Bool} {i : Nat} (h : c[i]? = some true) : pubB p c i = true := pubB_iff.2 (.inl h)
theorem rpub_any (ps : List Pn) (pv cv : Value) (c : List Bool) (i : Nat) (hl : ps.length ≤ 100000000) (hP : PoolOk (nds ps)) (hc : c.length = ps.length) (hi : i < ps.length) (w : World) (hp : PlS w (fpL []) pv ps) (hcr : RdS w (fpL []) cv 1 c.length (vcs Value.bool c)) (hw : OK w (fpL []) [] w) :
    Fn Try.prog 53 [pv, .int .i64 (i : Int), cv] [] w (fun _ : Unit => True) (fun _ => .bool (pubB (nds ps) c i)) (fun _ => []) := by
  obtain ⟨al, cl, rfl, hcl, hml⟩ := hp.rows.rd.form
  obtain ⟨ac, cc, rfl, hcc, hmc⟩ := hcr.rd.form
  obtain ⟨b, hb⟩ : ∃ b, c[i]? = some b := ⟨_, List.getElem?_eq_getElem (by omega)⟩
  refine enterF Try.func53 rfl Try.ntmps53 rfl hw ?_
  refine WC.seq ?_
  refine WC.region ?_
  refine WL.y (Yl.assign rfl) rfl ?_ -- t6
  refine WL.nil ?_
  refine WC.seq ?_
  refine WC.region ?_
  refine WL.y (Yl.move rfl) rfl ?_ -- t8
  refine WL.y (Yl.move rfl) rfl ?_ -- t9
  refine WL.to (To.buildSlice (vs := [.int .i64 (i : Int)]) un29 zs3 rfl rfl (by simp [Value.cells]) (by decide) (by decide)) rfl ?_ -- t10
  intro b10
  refine WL.y (Yl.build rfl (cs := [.int .u8 5, .int .u64 0, .slice (some ⟨b10, 0, none⟩) 1 1]) (fun _ => by kernel_rfl)) rfl ?_ -- t11
  refine WL.callC (xs := [.tmp 8, .tmp 11]) (cap := []) rfl rfl en44 (by repeat (first | exact TakeL.nil | (apply TakeL.cons; · repeat (first | exact Take1.head | apply Take1.tail)))) (fun w hw => find_any ps ⟨⟨5, 0, [i]⟩, some ⟨b10, 0, none⟩, 1⟩ _ (by omega) w (hw.srcLS (A := []) hp) (hw.src (A := []) (RdOf.blk (size := 1) (n := 1) (cs := ints .i64 [(i : Int)]) (cs' := ints .i64 [(i : Int)]) (Nat.le_refl _) (by show 1 ≤ maxLen; unfold maxLen; omega) (by simp [ints]) rfl) (by repeat (first | exact Take1.head | apply Take1.tail))) (by simp) hw.left.here) rfl ?_ -- t12 (hailer/hailerref21.Pool).find
  rintro ⟨⟩ -
  obtain ⟨o, ho⟩ : ∃ o, findP (nds ps) ⟨5, 0, [i]⟩ = o := ⟨_, rfl⟩
  rw [show findP (nds ps) (⟨⟨5, 0, [i]⟩, some ⟨b10, 0, none⟩, 1⟩ : Pn).nd = o from ho]
  refine WL.y (Yl.assign rfl) rfl ?_ -- t7
  refine WL.nil ?_
  refine WC.seq ?_
  refine WC.region ?_
  refine WL.y (Yl.move rfl) rfl ?_ -- t13
  refine WL.y (Yl.move rfl) rfl ?_ -- t14
  refine WL.y (Yl.index un44 sz4 rfl rfl (Reads.s hcr) rfl (by omega)) rfl ?_ -- t15
  refine WL.y (Yl.loadV vtB boAll rfl (Reads.s hcr) rfl hb) rfl ?_ -- t16
  refine WL.y (Yl.move rfl) rfl ?_ -- t17
  refine WL.both (t := 17) rfl (fun g17 => ?_) (fun g17 => ?_)
  · refine WL.off rfl rfl rfl rfl ?_ -- t18
    refine WL.off rfl rfl rfl rfl ?_ -- t19
    refine WL.off rfl rfl rfl rfl ?_ -- t20
    refine WL.offU rfl rfl rfl ?_ -- t21
    refine WL.offU rfl rfl rfl ?_ -- t22
    refine WL.offU rfl rfl rfl ?_ -- t23
    refine WL.offU rfl rfl rfl ?_ -- t24
    refine WL.off rfl rfl rfl rfl ?_ -- t25
    refine WL.y (Yl.pickT rfl rfl) rfl ?_ -- t26
    refine WL.y (Yl.assign rfl) rfl ?_ -- t6
    refine WL.nil ?_
    refine WC.ret ?_
    repeat (first | (with_reducible refine peelT ?_) | (with_reducible refine peelB ?_) | (with_reducible refine peelTX ?_) | (with_reducible refine peelBX ?_) | (with_reducible refine peelBN ?_) | (with_reducible refine peelBO rfl ?_))
    rw [pubB_t (by rw [hb, g17])]
    exact ret1 (.inr rfl) Try.results53 rfl fun w' h => ⟨(), trivial, rfl, h.sub (by repeat (first | exact TakeL.nil | (apply TakeL.cons; · repeat (first | exact Take1.head | apply Take1.tail))))⟩
  · refine WL.on rfl rfl ?_
    refine WL.y (Yl.move rfl) rfl ?_ -- t18
    refine WL.on rfl rfl ?_
    refine WL.y (Yl.geq rfl rfl) rfl ?_ -- t19
    refine WL.on rfl rfl ?_
    refine WL.y (Yl.move rfl) rfl ?_ -- t20
    refine WL.both (t := 20) rfl (fun g20 => ?_) (fun g20 => ?_)
    · refine WL.on rfl rfl ?_
      obtain ⟨j, rfl⟩ := plI_some (of_decide_eq_true g20)
      have hj := (List.getElem?_eq_some_iff.1 (find_some ho)).1
      rw [nds_len] at hj
      obtain ⟨b2, hb2⟩ : ∃ b, c[j]? = some b := ⟨_, List.getElem?_eq_getElem (by omega)⟩
      refine WL.y (Yl.move rfl) rfl ?_ -- t21
      refine WL.on rfl rfl ?_
      refine WL.y (Yl.move rfl) rfl ?_ -- t22
      refine WL.on rfl rfl ?_
      refine WL.y (Yl.index un44 sz4 rfl rfl (Reads.s hcr) (j := j) rfl (by omega)) rfl ?_ -- t23
      refine WL.on rfl rfl ?_
      refine WL.y (Yl.loadV vtB boAll rfl (Reads.s hcr) rfl hb2) rfl ?_ -- t24
      refine WL.on rfl rfl ?_
      refine WL.y (Yl.pickT rfl rfl) rfl ?_ -- t25
      refine WL.y (Yl.pickF rfl rfl) rfl ?_ -- t26
      refine WL.y (Yl.assign rfl) rfl ?_ -- t6
      refine WL.nil ?_
      refine WC.ret ?_
      repeat (first | (with_reducible refine peelT ?_) | (with_reducible refine peelB ?_) | (with_reducible refine peelTX ?_) | (with_reducible refine peelBX ?_) | (with_reducible refine peelBN ?_) | (with_reducible refine peelBO rfl ?_))
      rw [pubB_some hP.un ho hb hb2, g17, Bool.false_or]
      exact ret1 (.inr rfl) Try.results53 rfl fun w' h => ⟨(), trivial, rfl, h.sub (by repeat (first | exact TakeL.nil | (apply TakeL.cons; · repeat (first | exact Take1.head | apply Take1.tail))))⟩
    · refine WL.off rfl rfl rfl rfl ?_ -- t21
      refine WL.off rfl rfl rfl rfl ?_ -- t22
      refine WL.off rfl rfl rfl rfl ?_ -- t23
      refine WL.off rfl rfl rfl rfl ?_ -- t24
      refine WL.on rfl rfl ?_
      refine WL.y (Yl.pickF rfl rfl) rfl ?_ -- t25
      refine WL.y (Yl.pickF rfl rfl) rfl ?_ -- t26
      refine WL.y (Yl.assign rfl) rfl ?_ -- t6
      refine WL.nil ?_
      refine WC.ret ?_
      repeat (first | (with_reducible refine peelT ?_) | (with_reducible refine peelB ?_) | (with_reducible refine peelTX ?_) | (with_reducible refine peelBX ?_) | (with_reducible refine peelBN ?_) | (with_reducible refine peelBO rfl ?_))
      rw [plI_none (of_decide_eq_false g20)] at ho
      rw [pubB_none ho hb, g17]
      exact ret1 (.inr rfl) Try.results53 rfl fun w' h => ⟨(), trivial, rfl, h.sub (by repeat (first | exact TakeL.nil | (apply TakeL.cons; · repeat (first | exact Take1.head | apply Take1.tail))))⟩
set_option maxRecDepth 100000 in
theorem ready_any (ps : List Pn) (pv cv : Value) (c : List Bool) (i : Nat) (hl : ps.length ≤ 100000000) (hP : PoolOk (nds ps)) (hc : c.length = ps.length) (z : Pn) (hz : ps[i]? = some z) (w : World) (hp : PlS w (fpL []) pv ps) (hcr : RdS w (fpL []) cv 1 c.length (vcs Value.bool c)) (hw : OK w (fpL []) [] w) :
    Fn Try.prog 40 [pv, .int .i64 (i : Int), cv] [] w (fun _ : Unit => True) (fun _ => .bool (rdyB (nds ps) c z.nd)) (fun _ => []) := by
  obtain ⟨al, cl, rfl, hcl, hml⟩ := hp.rows.rd.form
  obtain ⟨ac, cc, rfl, hcc, hmc⟩ := hcr.rd.form
  have hil := (List.getElem?_eq_some_iff.1 hz).1
  have hzm := List.mem_of_getElem? hz
  have hzn := hP.nd i _ (nds_get hz)
  have hat : ∀ (k j : Nat), z.nd.pt[k]? = some j → ∃ b, c[j]? = some b := fun k j h => ⟨_, List.getElem?_eq_getElem (by have := hzn.p j (List.mem_of_getElem? h); omega)⟩
  have hptl := shp_ptl hzn.s
  refine enterF Try.func40 rfl Try.ntmps40 rfl hw ?_
  refine WC.seq ?_
  refine WC.region ?_
  refine WL.y (Yl.assign rfl) rfl ?_ -- t6
  refine WL.nil ?_
  refine WC.seq ?_
  refine WC.region ?_
  refine WL.y (Yl.move rfl) rfl ?_ -- t9
  refine WL.y (Yl.move rfl) rfl ?_ -- t10
  refine WL.y (Yl.index un28 sz38 rfl rfl (Reads.s hp.rows) rfl (by omega)) rfl ?_ -- t11
  refine WL.y (Yl.fieldE fo38_2 rfl vtPn pnAll (Reads.s hp.rows) hz) rfl ?_ -- t12
  refine WL.y (Yl.loadF on29 rfl vtPn pnAll (Reads.s hp.rows) hz (by rfl)) rfl ?_ -- t13
  refine WL.y (Yl.assign rfl) rfl ?_ -- t7
  refine WL.nil ?_
  refine WC.seq ?_
  refine WC.seq ?_
  refine WC.region ?_
  refine WL.y (Yl.move rfl) rfl ?_ -- t14
  refine WL.y (Yl.move rfl) rfl ?_ -- t15
  refine WL.y (Yl.index un28 sz38 rfl rfl (Reads.s hp.rows) rfl (by omega)) rfl ?_ -- t16
  refine WL.y (Yl.fieldE fo38_0 rfl vtPn pnAll (Reads.s hp.rows) hz) rfl ?_ -- t17
  refine WL.y (Yl.loadF on5 rfl vtPn pnAll (Reads.s hp.rows) hz (by rfl)) rfl ?_ -- t18
  refine WL.y (Yl.eql rfl rfl) rfl ?_ -- t19
  refine WL.nil ?_
  refine WC.condD rfl (fun g19 => ?_) (fun g19 => ?_)
  · refine WC.seq ?_
    refine WC.region ?_
    refine WL.y (Yl.assign rfl) rfl ?_ -- t6
    refine WL.nil ?_
    refine WC.ret ?_
    repeat (first | (with_reducible refine peelT ?_) | (with_reducible refine peelB ?_) | (with_reducible refine peelTX ?_) | (with_reducible refine peelBX ?_) | (with_reducible refine peelBN ?_) | (with_reducible refine peelBO rfl ?_))
    rw [rdyB_atom g19]
    exact ret1 (.inr rfl) Try.results40 rfl fun w' h => ⟨(), trivial, rfl, h.sub (by repeat (first | exact TakeL.nil | (apply TakeL.cons; · repeat (first | exact Take1.head | apply Take1.tail))))⟩
  · refine WC.skip ?_
    refine WC.seq ?_
    refine WC.seq ?_
    refine WC.region ?_
    refine WL.y (Yl.move rfl) rfl ?_ -- t20
    refine WL.y (Yl.move rfl) rfl ?_ -- t21
    refine WL.y (Yl.index un28 sz38 rfl rfl (Reads.s hp.rows) rfl (by omega)) rfl ?_ -- t22
    refine WL.y (Yl.fieldE fo38_0 rfl vtPn pnAll (Reads.s hp.rows) hz) rfl ?_ -- t23
    refine WL.y (Yl.loadF on5 rfl vtPn pnAll (Reads.s hp.rows) hz (by rfl)) rfl ?_ -- t24
    refine WL.y (Yl.eql rfl rfl) rfl ?_ -- t25
    refine WL.nil ?_
    refine WC.condD rfl (fun g25 => ?_) (fun g25 => ?_)
    · refine WC.seq ?_
      obtain ⟨x, y, hxy, _⟩ := nd_six hzn.s g25
      have hx0 : z.nd.pt[0]? = some x := by rw [hxy]; rfl
      have hy0 : z.nd.pt[1]? = some y := by rw [hxy]; rfl
      have hpl : z.nd.pt.length = 2 := by rw [hxy]; rfl
      obtain ⟨bx, hbx⟩ := hat 0 x hx0
      obtain ⟨by', hby⟩ := hat 1 y hy0
      have hxl := hzn.p x (by rw [hxy]; simp)
      have hyl := hzn.p y (by rw [hxy]; simp)
      have hsix := rdyB_six g25 hxy (p := nds ps) hbx hby
      refine WC.region ?_
      refine WL.y (Yl.move rfl) rfl ?_ -- t26
      refine WL.y (Yl.move rfl) rfl ?_ -- t27
      refine WL.y (Yl.index (j := 0) un29 sz3 rfl rfl (Reads.s (hp.pts z hzm)) rfl (by omega)) rfl ?_ -- t28
      refine WL.y (Yl.loadE (j := 0) on3 rfl (Reads.s (hp.pts z hzm)) (iN_cell hx0)) rfl ?_
      refine WL.y (Yl.index un44 sz4 rfl rfl (Reads.s hcr) (j := x) rfl (by omega)) rfl ?_ -- t30
      refine WL.y (Yl.loadV vtB boAll rfl (Reads.s hcr) rfl hbx) rfl ?_ -- t31
      refine WL.y (Yl.move rfl) rfl ?_ -- t32
      refine WL.both (t := 32) rfl (fun g32 => ?_) (fun g32 => ?_)
      · refine WL.on rfl rfl ?_
        refine WL.y (Yl.move rfl) rfl ?_ -- t33
        refine WL.on rfl rfl ?_
        refine WL.y (Yl.move rfl) rfl ?_ -- t34
        refine WL.on rfl rfl ?_
        refine WL.y (Yl.index (j := 1) un29 sz3 rfl rfl (Reads.s (hp.pts z hzm)) rfl (by omega)) rfl ?_ -- t35
        refine WL.on rfl rfl ?_
        refine WL.y (Yl.loadE (j := 1) on3 rfl (Reads.s (hp.pts z hzm)) (iN_cell hy0)) rfl ?_
        refine WL.on rfl rfl ?_
        refine WL.y (Yl.move rfl) rfl ?_ -- t37
        refine WL.on rfl rfl ?_
        refine WL.callC (xs := [.tmp 33, .tmp 36, .tmp 37]) (cap := []) rfl rfl en53 (by repeat (first | exact TakeL.nil | (apply TakeL.cons; · repeat (first | exact Take1.head | apply Take1.tail)))) (fun w hw => rpub_any ps _ _ c y hl hP hc (by omega) w (hw.srcLS (A := []) hp) (hw.srcS (A := []) hcr) hw.left.here) rfl ?_ -- t38 (hailer/hailerref21.Pool).public
        rintro ⟨⟩ -
        refine WL.y (Yl.pickT rfl rfl) rfl ?_ -- t39
        refine WL.y (Yl.move rfl) rfl ?_ -- t40
        refine WL.both (t := 40) rfl (fun g40 => ?_) (fun g40 => ?_)
        · refine WL.off rfl rfl rfl rfl ?_ -- t41
          refine WL.off rfl rfl rfl rfl ?_ -- t42
          refine WL.off rfl rfl rfl rfl ?_ -- t43
          refine WL.off rfl rfl rfl rfl ?_ -- t44
          refine WL.off rfl rfl rfl rfl ?_ -- t45
          refine WL.off rfl rfl rfl rfl ?_ -- t46
          refine WL.off rfl rfl rfl rfl ?_ -- t47
          refine WL.offU rfl rfl rfl ?_ -- t48
          refine WL.offU rfl rfl rfl ?_ -- t49
          refine WL.offU rfl rfl rfl ?_ -- t50
          refine WL.offU rfl rfl rfl ?_ -- t51
          refine WL.offU rfl rfl rfl ?_ -- t52
          refine WL.offU rfl rfl rfl ?_ -- t53
          refine WL.off rfl rfl rfl rfl ?_ -- t54
          refine WL.y (Yl.pickT rfl rfl) rfl ?_ -- t55
          refine WL.y (Yl.assign rfl) rfl ?_ -- t6
          refine WL.nil ?_
          refine WC.ret ?_
          repeat (first | (with_reducible refine peelT ?_) | (with_reducible refine peelB ?_) | (with_reducible refine peelTX ?_) | (with_reducible refine peelBX ?_) | (with_reducible refine peelBN ?_) | (with_reducible refine peelBO rfl ?_))
          exact ret1 (.inr rfl) Try.results40 rfl fun w' h => ⟨(), trivial, by rw [hsix]; simp_all, h.sub (by repeat (first | exact TakeL.nil | (apply TakeL.cons; · repeat (first | exact Take1.head | apply Take1.tail))))⟩
        · refine WL.on rfl rfl ?_
          refine WL.y (Yl.move rfl) rfl ?_ -- t41
          refine WL.on rfl rfl ?_
          refine WL.y (Yl.move rfl) rfl ?_ -- t42
          refine WL.on rfl rfl ?_
          refine WL.y (Yl.index (j := 1) un29 sz3 rfl rfl (Reads.s (hp.pts z hzm)) rfl (by omega)) rfl ?_ -- t43
          refine WL.on rfl rfl ?_
          refine WL.y (Yl.loadE (j := 1) on3 rfl (Reads.s (hp.pts z hzm)) (iN_cell hy0)) rfl ?_
          refine WL.on rfl rfl ?_
          refine WL.y (Yl.index un44 sz4 rfl rfl (Reads.s hcr) (j := y) rfl (by omega)) rfl ?_ -- t45
          refine WL.on rfl rfl ?_
          refine WL.y (Yl.loadV vtB boAll rfl (Reads.s hcr) rfl hby) rfl ?_ -- t46
          refine WL.on rfl rfl ?_
          refine WL.y (Yl.move rfl) rfl ?_ -- t47
          refine WL.both (t := 47) rfl (fun g47 => ?_) (fun g47 => ?_)
          · refine WL.on rfl rfl ?_
            refine WL.y (Yl.move rfl) rfl ?_ -- t48
            refine WL.on rfl rfl ?_
            refine WL.y (Yl.move rfl) rfl ?_ -- t49
            refine WL.on rfl rfl ?_
            refine WL.y (Yl.index (j := 0) un29 sz3 rfl rfl (Reads.s (hp.pts z hzm)) rfl (by omega)) rfl ?_ -- t50
            refine WL.on rfl rfl ?_
            refine WL.y (Yl.loadE (j := 0) on3 rfl (Reads.s (hp.pts z hzm)) (iN_cell hx0)) rfl ?_
            refine WL.on rfl rfl ?_
            refine WL.y (Yl.move rfl) rfl ?_ -- t52
            refine WL.on rfl rfl ?_
            refine WL.callC (xs := [.tmp 48, .tmp 51, .tmp 52]) (cap := []) rfl rfl en53 (by repeat (first | exact TakeL.nil | (apply TakeL.cons; · repeat (first | exact Take1.head | apply Take1.tail)))) (fun w hw => rpub_any ps _ _ c x hl hP hc (by omega) w (hw.srcLS (A := []) hp) (hw.srcS (A := []) hcr) hw.left.here) rfl ?_ -- t53 (hailer/hailerref21.Pool).public
            rintro ⟨⟩ -
            refine WL.on rfl rfl ?_
            refine WL.y (Yl.pickT rfl rfl) rfl ?_ -- t54
            refine WL.y (Yl.pickF rfl rfl) rfl ?_ -- t55
            refine WL.y (Yl.assign rfl) rfl ?_ -- t6
            refine WL.nil ?_
            refine WC.ret ?_
            repeat (first | (with_reducible refine peelT ?_) | (with_reducible refine peelB ?_) | (with_reducible refine peelTX ?_) | (with_reducible refine peelBX ?_) | (with_reducible refine peelBN ?_) | (with_reducible refine peelBO rfl ?_))
            exact ret1 (.inr rfl) Try.results40 rfl fun w' h => ⟨(), trivial, by rw [hsix]; simp_all, h.sub (by repeat (first | exact TakeL.nil | (apply TakeL.cons; · repeat (first | exact Take1.head | apply Take1.tail))))⟩
          · refine WL.off rfl rfl rfl rfl ?_ -- t48
            refine WL.off rfl rfl rfl rfl ?_ -- t49
            refine WL.off rfl rfl rfl rfl ?_ -- t50
            refine WL.off rfl rfl rfl rfl ?_ -- t51
            refine WL.off rfl rfl rfl rfl ?_ -- t52
            refine WL.off rfl rfl rfl rfl ?_ -- t53
            refine WL.on rfl rfl ?_
            refine WL.y (Yl.pickF rfl rfl) rfl ?_ -- t54
            refine WL.y (Yl.pickF rfl rfl) rfl ?_ -- t55
            refine WL.y (Yl.assign rfl) rfl ?_ -- t6
            refine WL.nil ?_
            refine WC.ret ?_
            repeat (first | (with_reducible refine peelT ?_) | (with_reducible refine peelB ?_) | (with_reducible refine peelTX ?_) | (with_reducible refine peelBX ?_) | (with_reducible refine peelBN ?_) | (with_reducible refine peelBO rfl ?_))
            exact ret1 (.inr rfl) Try.results40 rfl fun w' h => ⟨(), trivial, by rw [hsix]; simp_all, h.sub (by repeat (first | exact TakeL.nil | (apply TakeL.cons; · repeat (first | exact Take1.head | apply Take1.tail))))⟩
      · refine WL.off rfl rfl rfl rfl ?_ -- t33
        refine WL.off rfl rfl rfl rfl ?_ -- t34
        refine WL.off rfl rfl rfl rfl ?_ -- t35
        refine WL.off rfl rfl rfl rfl ?_ -- t36
        refine WL.off rfl rfl rfl rfl ?_ -- t37
        refine WL.off rfl rfl rfl rfl ?_ -- t38
        refine WL.y (Yl.pickF rfl rfl) rfl ?_ -- t39
        refine WL.y (Yl.move rfl) rfl ?_ -- t40
        refine WL.on rfl rfl ?_
        refine WL.y (Yl.move rfl) rfl ?_ -- t41
        refine WL.on rfl rfl ?_
        refine WL.y (Yl.move rfl) rfl ?_ -- t42
        refine WL.on rfl rfl ?_
        refine WL.y (Yl.index (j := 1) un29 sz3 rfl rfl (Reads.s (hp.pts z hzm)) rfl (by omega)) rfl ?_ -- t43
        refine WL.on rfl rfl ?_
        refine WL.y (Yl.loadE (j := 1) on3 rfl (Reads.s (hp.pts z hzm)) (iN_cell hy0)) rfl ?_
        refine WL.on rfl rfl ?_
        refine WL.y (Yl.index un44 sz4 rfl rfl (Reads.s hcr) (j := y) rfl (by omega)) rfl ?_ -- t45
        refine WL.on rfl rfl ?_
        refine WL.y (Yl.loadV vtB boAll rfl (Reads.s hcr) rfl hby) rfl ?_ -- t46
        refine WL.on rfl rfl ?_
        refine WL.y (Yl.move rfl) rfl ?_ -- t47
        refine WL.both (t := 47) rfl (fun g47 => ?_) (fun g47 => ?_)
        · refine WL.on rfl rfl ?_
          refine WL.y (Yl.move rfl) rfl ?_ -- t48
          refine WL.on rfl rfl ?_
          refine WL.y (Yl.move rfl) rfl ?_ -- t49
          refine WL.on rfl rfl ?_
          refine WL.y (Yl.index (j := 0) un29 sz3 rfl rfl (Reads.s (hp.pts z hzm)) rfl (by omega)) rfl ?_ -- t50
          refine WL.on rfl rfl ?_
          refine WL.y (Yl.loadE (j := 0) on3 rfl (Reads.s (hp.pts z hzm)) (iN_cell hx0)) rfl ?_
          refine WL.on rfl rfl ?_
          refine WL.y (Yl.move rfl) rfl ?_ -- t52
          refine WL.on rfl rfl ?_
          refine WL.callC (xs := [.tmp 48, .tmp 51, .tmp 52]) (cap := []) rfl rfl en53 (by repeat (first | exact TakeL.nil | (apply TakeL.cons; · repeat (first | exact Take1.head | apply Take1.tail)))) (fun w hw => rpub_any ps _ _ c x hl hP hc (by omega) w (hw.srcLS (A := []) hp) (hw.srcS (A := []) hcr) hw.left.here) rfl ?_ -- t53 (hailer/hailerref21.Pool).public
          rintro ⟨⟩ -
          refine WL.on rfl rfl ?_
          refine WL.y (Yl.pickT rfl rfl) rfl ?_ -- t54
          refine WL.y (Yl.pickF rfl rfl) rfl ?_ -- t55
          refine WL.y (Yl.assign rfl) rfl ?_ -- t6
          refine WL.nil ?_
          refine WC.ret ?_
          repeat (first | (with_reducible refine peelT ?_) | (with_reducible refine peelB ?_) | (with_reducible refine peelTX ?_) | (with_reducible refine peelBX ?_) | (with_reducible refine peelBN ?_) | (with_reducible refine peelBO rfl ?_))
          exact ret1 (.inr rfl) Try.results40 rfl fun w' h => ⟨(), trivial, by rw [hsix]; simp_all, h.sub (by repeat (first | exact TakeL.nil | (apply TakeL.cons; · repeat (first | exact Take1.head | apply Take1.tail))))⟩
        · refine WL.off rfl rfl rfl rfl ?_ -- t48
          refine WL.off rfl rfl rfl rfl ?_ -- t49
          refine WL.off rfl rfl rfl rfl ?_ -- t50
          refine WL.off rfl rfl rfl rfl ?_ -- t51
          refine WL.off rfl rfl rfl rfl ?_ -- t52
          refine WL.off rfl rfl rfl rfl ?_ -- t53
          refine WL.on rfl rfl ?_
          refine WL.y (Yl.pickF rfl rfl) rfl ?_ -- t54
          refine WL.y (Yl.pickF rfl rfl) rfl ?_ -- t55
          refine WL.y (Yl.assign rfl) rfl ?_ -- t6
          refine WL.nil ?_
          refine WC.ret ?_
          repeat (first | (with_reducible refine peelT ?_) | (with_reducible refine peelB ?_) | (with_reducible refine peelTX ?_) | (with_reducible refine peelBX ?_) | (with_reducible refine peelBN ?_) | (with_reducible refine peelBO rfl ?_))
          exact ret1 (.inr rfl) Try.results40 rfl fun w' h => ⟨(), trivial, by rw [hsix]; simp_all, h.sub (by repeat (first | exact TakeL.nil | (apply TakeL.cons; · repeat (first | exact Take1.head | apply Take1.tail))))⟩
    · refine WC.skip ?_
      refine WC.seq ?_
      refine WC.seq ?_
      refine WC.region ?_
      refine WL.y (Yl.assign rfl) rfl ?_ -- t8
      refine WL.nil ?_
      refine WC.block ?_
      have h1 : z.nd.k ≠ 1 := g19
      have h6 : z.nd.k ≠ 6 := g25
      refine WC.loop (α := Nat) (fun k => [(0, .slice al ps.length cl), (2, .slice ac c.length cc), (7, pnS z), (8, .int .i64 (k : Int))]) (fun _ => []) (fun k => k ≤ z.nd.pt.length ∧ ∀ j ∈ z.nd.pt.take k, cP c j) (fun k => z.nd.pt.length - k) 0 ⟨Nat.zero_le _, by simp⟩ ⟨(by repeat (first | exact Sub.nil | refine Sub.cons rfl ?_)), _, (by repeat (first | exact TakeL.nil | (apply TakeL.cons; · repeat (first | exact Take1.head | apply Take1.tail))))⟩ ?_
      rintro k ⟨hk, hall⟩
      refine WC.seq ?_
      refine WC.seq ?_
      refine WC.region ?_
      refine WL.y (Yl.move rfl) rfl ?_ -- t56
      refine WL.y (Yl.move rfl) rfl ?_ -- t57
      refine WL.y (Yl.len un29 rfl) rfl ?_ -- t58
      refine WL.y (Yl.lss rfl rfl) rfl ?_ -- t59
      refine WL.nil ?_
      refine WC.condD rfl (fun g59 => ?_) (fun g59 => ?_)
      · refine WC.skip ?_
        refine WC.seq ?_
        refine WC.block ?_
        refine WC.seq ?_
        have hkl : k < z.nd.pt.length := by have := g59; omega
        obtain ⟨j, hj⟩ : ∃ y, z.nd.pt[k]? = some y := ⟨_, List.getElem?_eq_getElem hkl⟩
        obtain ⟨b, hb⟩ := hat k j hj
        have hjl := hzn.p j (List.mem_of_getElem? hj)
        refine WC.region ?_
        refine WL.y (Yl.move rfl) rfl ?_ -- t62
        refine WL.y (Yl.move rfl) rfl ?_ -- t63
        refine WL.y (Yl.move rfl) rfl ?_ -- t64
        refine WL.y (Yl.index un29 sz3 rfl rfl (Reads.s (hp.pts z hzm)) rfl (by omega)) rfl ?_ -- t65
        refine WL.y (Yl.loadE (j := k) on3 rfl (Reads.s (hp.pts z hzm)) (iN_cell hj)) rfl ?_
        refine WL.y (Yl.index un44 sz4 rfl rfl (Reads.s hcr) (j := j) rfl (by omega)) rfl ?_ -- t67
        refine WL.y (Yl.loadV vtB boAll rfl (Reads.s hcr) rfl hb) rfl ?_ -- t68
        refine WL.y (Yl.not rfl) rfl ?_ -- t69
        refine WL.nil ?_
        refine WC.cond rfl (fun g69 => ?_) (fun g69 => ?_)
        · refine WC.seq ?_
          refine WC.region ?_
          refine WL.y (Yl.assign rfl) rfl ?_ -- t6
          refine WL.nil ?_
          refine WC.ret ?_
          repeat (first | (with_reducible refine peelT ?_) | (with_reducible refine peelB ?_) | (with_reducible refine peelTX ?_) | (with_reducible refine peelBX ?_) | (with_reducible refine peelBN ?_) | (with_reducible refine peelBO rfl ?_))
          have e : rdyB (nds ps) c z.nd = false := by
            rw [Bool.eq_false_iff]
            intro h
            have := (rdyB_all h1 h6).1 h j (List.mem_of_getElem? hj)
            rw [cP_at hb] at this
            rw [this] at g69
            cases g69
          rw [e]
          exact ret1 (.inr rfl) Try.results40 rfl fun w' h => ⟨(), trivial, rfl, h.sub (by repeat (first | exact TakeL.nil | (apply TakeL.cons; · repeat (first | exact Take1.head | apply Take1.tail))))⟩
        · refine WC.skip ?_
          refine WC.region ?_
          refine WL.y (Yl.move rfl) rfl ?_ -- t60
          refine WL.y (Yl.add rfl rfl (IntWalk.i64_in _ (by omega))) rfl ?_ -- t61
          refine WL.y (Yl.assign rfl) rfl ?_ -- t8
          refine WL.nil ?_
          refine ⟨rfl, k + 1, ⟨by omega, fun q hq => ?_⟩, by omega, (by repeat (first | exact Sub.nil | refine Sub.cons rfl ?_)), _, (by repeat (first | exact TakeL.nil | (apply TakeL.cons; · repeat (first | exact Take1.head | apply Take1.tail))))⟩
          rw [← take_snoc _ _ _ hj] at hq
          rcases List.mem_append.1 hq with hq | hq
          · exact hall q hq
          · rw [List.mem_singleton.1 hq, cP_at hb]
            simpa using g69
      · refine WC.exit ?_
        refine WC.seq ?_
        refine WC.region ?_
        refine WL.y (Yl.assign rfl) rfl ?_ -- t6
        refine WL.nil ?_
        refine WC.ret ?_
        repeat (first | (with_reducible refine peelT ?_) | (with_reducible refine peelB ?_) | (with_reducible refine peelTX ?_) | (with_reducible refine peelBX ?_) | (with_reducible refine peelBN ?_) | (with_reducible refine peelBO rfl ?_))
        have hkl : k = z.nd.pt.length := by have := g59; omega
        rw [hkl, List.take_length] at hall
        rw [(rdyB_all h1 h6).2 hall]
        exact ret1 (.inr rfl) Try.results40 rfl fun w' h => ⟨(), trivial, rfl, h.sub (by repeat (first | exact TakeL.nil | (apply TakeL.cons; · repeat (first | exact Take1.head | apply Take1.tail))))⟩
set_option maxRecDepth 100000 in
theorem rcan_any (ps : List Pn) (pv gv : Value) (g : List Bool) (hl : ps.length ≤ 100000000) (hP : PoolOk (nds ps)) (hg : g.length = ps.length) (w : World) (hp : PlS w (fpL []) pv ps) (hgr : RdS w (fpL []) gv 1 g.length (vcs Value.bool g)) (hw : OK w (fpL []) [] w) :
    Fn Try.prog 22 [pv, gv] [] w (fun y : List Bool × (Option Addr × Nat) => CanOf (nds ps) g y.1) (fun y => .slice y.2.1 y.1.length y.2.2) (fun y => [ownR (.slice y.2.1 y.1.length y.2.2) 4 1 y.1.length (vcs Value.bool y.1)]) := by
  obtain ⟨al, cl, rfl, hcl, hml⟩ := hp.rows.rd.form
  obtain ⟨ac, cc, rfl, hcc, hmc⟩ := hgr.rd.form
  have hnl := nds_len ps
  refine enterF Try.func22 rfl Try.ntmps22 rfl hw ?_
  refine WC.seq ?_
  refine WC.region ?_
  refine WL.y (Yl.assign rfl) rfl ?_ -- t4
  refine WL.nil ?_
  refine WC.seq ?_
  refine WC.region ?_
  refine WL.to (To.buildSlice (vs := []) un44 zs4 rfl rfl (by simp) (by decide) (by decide)) rfl ?_
  intro b8
  rw [show flat [] = [] from rfl]
  refine WL.view (fun w h => h.blkOwn (b := b8) (size := 1) (n := 0) (by repeat (first | exact Take1.head | apply Take1.tail)) (by unfold maxLen; omega) rfl) ?_
  refine WL.y (Yl.move rfl) rfl ?_ -- t9
  refine WL.to (To.append sl44 rfl rfl (by repeat (first | exact Take1.head | apply Take1.tail)) (Reads.s hgr) (vtB.ones _) (Nat.zero_add _) (List.nil_append _) (by unfold maxLen; omega) (by omega)) rfl ?_ -- t10
  rintro ⟨⟨ao10, c10⟩, hc10⟩
  dsimp only at hc10 ⊢
  refine WL.y (Yl.assign rfl) rfl ?_ -- t5
  refine WL.nil ?_
  refine WC.seq ?_
  refine WC.seq ?_
  refine WC.region ?_
  refine WL.y (Yl.assign rfl) rfl ?_ -- t6
  refine WL.nil ?_
  refine WC.block ?_
  refine WC.loop (α := List Bool × Bool) (fun s => [(0, .slice al ps.length cl), (5, .slice ao10 s.1.length c10), (6, .bool s.2)]) (fun s => [ownR (.slice ao10 s.1.length c10) 4 1 s.1.length (vcs Value.bool s.1)]) (fun s => ∃ c0 k m, CanI (nds ps) g c0 k s.1 m ∧ (s.2 = false → k = (nds ps).length ∧ m = false)) (fun s => 2 * s.1.count false + (if s.2 then 1 else 0)) (g, true) ⟨g, 0, false, CanI.first (by rw [hg, hnl]), fun h => nomatch h⟩ ⟨(by repeat (first | exact Sub.nil | refine Sub.cons rfl ?_)), _, (by repeat (first | exact TakeL.nil | (apply TakeL.cons; · repeat (first | exact Take1.head | apply Take1.tail))))⟩ ?_
  rintro ⟨d, more⟩ ⟨c0, k0, m0, hci, hmf⟩
  dsimp only at hci hmf ⊢
  refine WC.seq ?_
  refine WC.seq ?_
  refine WC.region ?_
  refine WL.y (Yl.move rfl) rfl ?_ -- t11
  refine WL.nil ?_
  refine WC.cond rfl (fun g11 => ?_) (fun g11 => ?_)
  · refine WC.skip ?_
    refine WC.block ?_
    refine WC.seq ?_
    refine WC.region ?_
    refine WL.y (Yl.assign rfl) rfl ?_ -- t6
    refine WL.nil ?_
    refine WC.seq ?_
    refine WC.region ?_
    refine WL.y (Yl.assign rfl) rfl ?_ -- t7
    refine WL.nil ?_
    refine WC.block ?_
    have hb := hci.begin
    have hdl := hci.len
    subst g11
    refine WC.loop (α := Nat × List Bool × Bool) (fun s => [(0, .slice al ps.length cl), (5, .slice ao10 d.length c10), (6, .bool s.2.2), (7, .int .i64 (s.1 : Int))]) (fun s => [ownR (.slice ao10 d.length c10) 4 1 d.length (vcs Value.bool s.2.1)]) (fun s => s.1 ≤ ps.length ∧ CanI (nds ps) g d s.1 s.2.1 s.2.2) (fun s => ps.length - s.1) (0, d, false) ⟨Nat.zero_le _, hb⟩ ⟨(by repeat (first | exact Sub.nil | refine Sub.cons rfl ?_)), _, (by repeat (first | exact TakeL.nil | (apply TakeL.cons; · repeat (first | exact Take1.head | apply Take1.tail))))⟩ ?_
    rintro ⟨i, e, mo⟩ ⟨hi, he⟩
    dsimp only at hi he ⊢
    have hel := he.len
    refine WC.seq ?_
    refine WC.seq ?_
    refine WC.region ?_
    refine WL.y (Yl.move rfl) rfl ?_ -- t12
    refine WL.y (Yl.move rfl) rfl ?_ -- t13
    refine WL.y (Yl.len un28 rfl) rfl ?_ -- t14
    refine WL.y (Yl.lss rfl rfl) rfl ?_ -- t15
    refine WL.nil ?_
    refine WC.condD rfl (fun g15 => ?_) (fun g15 => ?_)
    · refine WC.skip ?_
      refine WC.seq ?_
      refine WC.block ?_
      refine WC.seq ?_
      have hil : i < ps.length := by have := g15; omega
      obtain ⟨z, hz⟩ : ∃ z, ps[i]? = some z := ⟨_, List.getElem?_eq_getElem hil⟩
      obtain ⟨b, hb⟩ : ∃ z, e[i]? = some z := ⟨_, List.getElem?_eq_getElem (by omega)⟩
      refine WC.region ?_
      refine WL.y (Yl.move rfl) rfl ?_ -- t18
      refine WL.y (Yl.move rfl) rfl ?_ -- t19
      refine WL.y (Yl.index un44 sz4 rfl rfl (Reads.of (r := ownR (.slice ao10 d.length c10) 4 1 d.length (vcs Value.bool e)) RdOf.own (by repeat (first | exact Take1.head | apply Take1.tail))) rfl (by omega)) rfl ?_ -- t20
      refine WL.y (Yl.loadV vtB boAll rfl (Reads.of (r := ownR (.slice ao10 d.length c10) 4 1 d.length (vcs Value.bool e)) RdOf.own (by repeat (first | exact Take1.head | apply Take1.tail))) (by omega) hb) rfl ?_
      refine WL.y (Yl.not rfl) rfl ?_ -- t22
      refine WL.y (Yl.move rfl) rfl ?_ -- t23
      refine WL.both (t := 23) rfl (fun g23 => ?_) (fun g23 => ?_)
      · refine WL.on rfl rfl ?_
        have hdb : e.length = d.length := by omega
        refine WL.y (Yl.move rfl) rfl ?_ -- t24
        refine WL.on rfl rfl ?_
        refine WL.y (Yl.move rfl) rfl ?_ -- t25
        refine WL.on rfl rfl ?_
        refine WL.y (Yl.move rfl) rfl ?_ -- t26
        refine WL.on rfl rfl ?_
        refine WL.callC (xs := [.tmp 24, .tmp 25, .tmp 26]) (cap := []) rfl rfl en40 (by repeat (first | exact TakeL.nil | (apply TakeL.cons; · repeat (first | exact Take1.head | apply Take1.tail)))) (fun w hw => ready_any ps _ _ e i hl hP (by omega) z hz w (hw.srcLS (A := []) hp) (by rw [show e.length = d.length by omega]; exact hw.src (A := []) (r := ownR (.slice ao10 d.length c10) 4 1 d.length (vcs Value.bool e)) RdOf.own (by repeat (first | exact Take1.head | apply Take1.tail))) hw.left.here) rfl ?_ -- t27 (hailer/hailerref21.Pool).ready
        rintro ⟨⟩ -
        refine WL.y (Yl.pickT rfl rfl) rfl ?_ -- t28
        refine WL.nil ?_
        refine WC.cond rfl (fun g28 => ?_) (fun g28 => ?_)
        · refine WC.seq ?_
          refine WC.region ?_
          refine WL.y (Yl.move rfl) rfl ?_ -- t29
          refine WL.y (Yl.move rfl) rfl ?_ -- t30
          refine WL.y (Yl.index un44 sz4 rfl rfl (Reads.of (r := ownR (.slice ao10 d.length c10) 4 1 d.length (vcs Value.bool e)) RdOf.own (by repeat (first | exact Take1.head | apply Take1.tail))) rfl (by omega)) rfl ?_ -- t31
          refine WL.sto (Sto.elemV (j := i) (u := true) vtB boAll trivial rfl rfl (by repeat (first | exact Take1.head | apply Take1.tail)) (by omega) (by omega)) (fun _ h => nomatch h) ?_
          refine WL.nil ?_
          refine WC.region ?_
          refine WL.y (Yl.assign rfl) rfl ?_ -- t6
          refine WL.nil ?_
          refine WC.region ?_
          refine WL.y (Yl.move rfl) rfl ?_ -- t16
          refine WL.y (Yl.add rfl rfl (IntWalk.i64_in _ (by omega))) rfl ?_ -- t17
          refine WL.y (Yl.assign rfl) rfl ?_ -- t7
          refine WL.nil ?_
          have hbf : b = false := by cases b with | false => rfl | true => cases g23
          subst hbf
          exact ⟨rfl, (i + 1, e.set i true, true), ⟨by dsimp only; omega, he.more hP (nds_get hz) hb g28⟩, by dsimp only; omega, (by repeat (first | exact Sub.nil | refine Sub.cons rfl ?_)), _, (by repeat (first | exact TakeL.nil | (apply TakeL.cons; · repeat (first | exact Take1.head | apply Take1.tail))))⟩
        · refine WC.skip ?_
          refine WC.region ?_
          refine WL.y (Yl.move rfl) rfl ?_ -- t16
          refine WL.y (Yl.add rfl rfl (IntWalk.i64_in _ (by omega))) rfl ?_ -- t17
          refine WL.y (Yl.assign rfl) rfl ?_ -- t7
          refine WL.nil ?_
          exact ⟨rfl, (i + 1, e, mo), ⟨by dsimp only; omega, he.keep (nds_get hz) (.inr g28)⟩, by dsimp only; omega, (by repeat (first | exact Sub.nil | refine Sub.cons rfl ?_)), _, (by repeat (first | exact TakeL.nil | (apply TakeL.cons; · repeat (first | exact Take1.head | apply Take1.tail))))⟩
      · refine WL.off rfl rfl rfl rfl ?_ -- t24
        refine WL.off rfl rfl rfl rfl ?_ -- t25
        refine WL.off rfl rfl rfl rfl ?_ -- t26
        refine WL.off rfl rfl rfl rfl ?_ -- t27
        refine WL.y (Yl.pickF rfl rfl) rfl ?_ -- t28
        refine WL.nil ?_
        refine WC.condF rfl (by first | rfl | (simp; done) | (simp; omega)) ?_
        refine WC.skip ?_
        refine WC.region ?_
        refine WL.y (Yl.move rfl) rfl ?_ -- t16
        refine WL.y (Yl.add rfl rfl (IntWalk.i64_in _ (by omega))) rfl ?_ -- t17
        refine WL.y (Yl.assign rfl) rfl ?_ -- t7
        refine WL.nil ?_
        have hbf : b = true := by cases b with | true => rfl | false => cases g23
        subst hbf
        exact ⟨rfl, (i + 1, e, mo), ⟨by dsimp only; omega, he.keep (nds_get hz) (.inl hb)⟩, by dsimp only; omega, (by repeat (first | exact Sub.nil | refine Sub.cons rfl ?_)), _, (by repeat (first | exact TakeL.nil | (apply TakeL.cons; · repeat (first | exact Take1.head | apply Take1.tail))))⟩
    · refine WC.exit ?_
      have hil : i = ps.length := by have := g15; omega
      subst hil
      have hed : e.length = d.length := by omega
      refine ⟨rfl, (e, mo), ⟨d, ps.length, mo, he, fun h => ⟨hnl.symm, h⟩⟩, ?_, by dsimp only; rw [hed]; exact (by repeat (first | exact Sub.nil | refine Sub.cons rfl ?_)), _, by dsimp only; rw [hed]; exact (by repeat (first | exact TakeL.nil | (apply TakeL.cons; · repeat (first | exact Take1.head | apply Take1.tail))))⟩
      dsimp only
      cases mo with
      | true => have := he.yes rfl; simp; omega
      | false => rw [(he.no rfl).1]; simp
  · refine WC.exit ?_
    refine WC.seq ?_
    refine WC.region ?_
    refine WL.y (Yl.move rfl) rfl ?_ -- t32
    refine WL.y (Yl.assign rfl) rfl ?_ -- t4
    refine WL.nil ?_
    refine WC.ret ?_
    repeat (first | (with_reducible refine peelT ?_) | (with_reducible refine peelB ?_) | (with_reducible refine peelTX ?_) | (with_reducible refine peelBX ?_) | (with_reducible refine peelBN ?_) | (with_reducible refine peelBO rfl ?_))
    obtain ⟨rfl, rfl⟩ := hmf g11
    exact ret1 (.inr rfl) Try.results22 rfl fun w' h => ⟨(d, ao10, c10), ⟨hci.len, fun i hi => hci.done hP hi⟩, rfl, h.sub (by repeat (first | exact TakeL.nil | (apply TakeL.cons; · repeat (first | exact Take1.head | apply Take1.tail))))⟩
end Go.Proofs.Ytifhkjcimhhaiaa

namespace Go.Proofs.Ytifhkjcimhhaiaa
open Go Go.RowKit
theorem two_parts {nd : Nd} (h : nd.shp) (hk : nd.k = 2 ∨ nd.k = 4) : ∃ x y, nd.pt = [x, y] := by
  unfold Nd.shp at h
  have h7 : nd.pt.length = 2 := by omega
  match hq : nd.pt, h7 with
  | [r, s], _ => exact ⟨r, s, rfl⟩
section
variable {p : List Nd} {g d can e : List Bool} {i : Nat} {mo : Bool} {nd : Nd}
theorem CanOf.sub {x : Nat} (hc : CanOf p d can) (he : ClI p g d i e mo) (hx : x < p.length) (h : cP can x) : ((trs p).getD x zT).canP (tsP p (cP e)) :=
  can_mono (fun t ⟨j, hj, q, r⟩ => ⟨j, hj, he.grow j q, r⟩) _ ((hc.is x hx).1 h)
/-- A place that isn't known, or tells nothing. -/
theorem ClI.skip (he : ClI p g d i e mo) (hi : p[i]? = some nd) (h : e[i]? = some false ∨ (nd.k ≠ 2 ∧ nd.k ≠ 4) ∨ (nd.k = 4 ∧ ∃ x, nd.pt[0]? = some x ∧ x < p.length ∧ can[x]? = some false)) (hc : CanOf p d can) : ClI p g d (i + 1) e mo := by
  refine he.next hi fun hm hd => ?_
  obtain ⟨rfl, _⟩ := he.no hm
  rcases h with h | h | ⟨h4, x, h0, hx, hf⟩
  · unfold cP at hd
    rw [h] at hd
    cases hd
  · exact ⟨fun h2 => absurd h2 h.1, fun h4 => absurd h4 h.2⟩
  · refine ⟨fun h2 => by omega, fun _ hcan => ?_⟩
    have e1 : nd.pt.getD 0 0 = x := by simp [List.getD, h0]
    rw [e1] at hcan
    have := (hc.is x hx).2 hcan
    unfold cP at this
    rw [hf] at this
    cases this
theorem ClI.over (he : ClI p g d i e mo) (hi : p[i]? = some nd) {x y : Nat} (hp : nd.pt = [x, y]) (h2 : nd.k = 2 → cP e x) (hy : cP e y) : ClI p g d (i + 1) e mo := by
  refine he.next hi fun hm hd => ?_
  obtain ⟨rfl, _⟩ := he.no hm
  rw [hp]
  refine ⟨fun hk z hz => ?_, fun _ _ => hy⟩
  simp only [List.mem_cons, List.not_mem_nil, or_false] at hz
  rcases hz with rfl | rfl
  · exact h2 hk
  · exact hy
end
set_option maxRecDepth 100000 in
set_option maxHeartbeats 1600000 in
theorem rclose_any (ps : List Pn) (pv gv : Value) (g : List Bool) (hl : ps.length ≤ 100000000) (hP : PoolOk (nds ps)) (hg : g.length = ps.length) (w : World) (hp : PlS w (fpL []) pv ps) (hgr : RdS w (fpL []) gv 1 g.length (vcs Value.bool g)) (hw : OK w (fpL []) [] w) :
    Fn Try.prog 21 [pv, gv] [] w (fun y : List Bool × (Option Addr × Nat) => ClOf (nds ps) g y.1) (fun y => .slice y.2.1 y.1.length y.2.2) (fun y => [ownR (.slice y.2.1 y.1.length y.2.2) 4 1 y.1.length (vcs Value.bool y.1)]) := by
  obtain ⟨al, cl, rfl, hcl, hml⟩ := hp.rows.rd.form
  obtain ⟨ac, cc, rfl, hcc, hmc⟩ := hgr.rd.form
  have hnl := nds_len ps
  refine enterF Try.func21 rfl Try.ntmps21 rfl hw ?_
  refine WC.seq ?_
  refine WC.region ?_
  refine WL.y (Yl.assign rfl) rfl ?_ -- t4
  refine WL.nil ?_
  refine WC.seq ?_
  refine WC.region ?_
  refine WL.to (To.buildSlice (vs := []) un44 zs4 rfl rfl (by simp) (by decide) (by decide)) rfl ?_
  intro b11
  rw [show flat [] = [] from rfl]
  refine WL.view (fun w h => h.blkOwn (b := b11) (size := 1) (n := 0) (by repeat (first | exact Take1.head | apply Take1.tail)) (by unfold maxLen; omega) rfl) ?_
  refine WL.y (Yl.move rfl) rfl ?_ -- t12
  refine WL.to (To.append sl44 rfl rfl (by repeat (first | exact Take1.head | apply Take1.tail)) (Reads.s hgr) (vtB.ones _) (Nat.zero_add _) (List.nil_append _) (by unfold maxLen; omega) (by omega)) rfl ?_ -- t13
  rintro ⟨⟨ao13, c13⟩, hc13⟩
  dsimp only at hc13 ⊢
  refine WL.y (Yl.assign rfl) rfl ?_ -- t5
  refine WL.nil ?_
  refine WC.seq ?_
  refine WC.seq ?_
  refine WC.region ?_
  refine WL.y (Yl.assign rfl) rfl ?_ -- t6
  refine WL.nil ?_
  refine WC.block ?_
  refine WC.loop (α := List Bool × Bool) (fun s => [(0, .slice al ps.length cl), (5, .slice ao13 s.1.length c13), (6, .bool s.2)]) (fun s => [ownR (.slice ao13 s.1.length c13) 4 1 s.1.length (vcs Value.bool s.1)]) (fun s => ∃ c0 k m, ClI (nds ps) g c0 k s.1 m ∧ (s.2 = false → k = (nds ps).length ∧ m = false)) (fun s => 2 * s.1.count false + (if s.2 then 1 else 0)) (g, true) ⟨g, 0, false, ClI.first (by rw [hg, hnl]), fun h => nomatch h⟩ ⟨(by repeat (first | exact Sub.nil | refine Sub.cons rfl ?_)), _, (by repeat (first | exact TakeL.nil | (apply TakeL.cons; · repeat (first | exact Take1.head | apply Take1.tail))))⟩ ?_
  rintro ⟨d, more⟩ ⟨c0, k0, m0, hci, hmf⟩
  dsimp only at hci hmf ⊢
  have hdl := hci.len
  refine WC.seq ?_
  refine WC.seq ?_
  refine WC.region ?_
  refine WL.y (Yl.move rfl) rfl ?_ -- t14
  refine WL.nil ?_
  refine WC.cond rfl (fun g14 => ?_) (fun g14 => ?_)
  · refine WC.skip ?_
    refine WC.block ?_
    refine WC.seq ?_
    refine WC.region ?_
    refine WL.y (Yl.assign rfl) rfl ?_ -- t6
    refine WL.nil ?_
    refine WC.seq ?_
    refine WC.region ?_
    refine WL.y (Yl.move rfl) rfl ?_ -- t15
    refine WL.y (Yl.move rfl) rfl ?_ -- t16
    refine WL.callC (xs := [.tmp 15, .tmp 16]) (cap := []) rfl rfl en22 (by repeat (first | exact TakeL.nil | (apply TakeL.cons; · repeat (first | exact Take1.head | apply Take1.tail)))) (fun w hw => rcan_any ps _ _ d hl hP (by omega) w (hw.srcLS (A := []) hp) (hw.src (A := []) (r := ownR (.slice ao13 d.length c13) 4 1 d.length (vcs Value.bool d)) RdOf.own (by repeat (first | exact Take1.head | apply Take1.tail))) hw.left.here) rfl ?_ -- t17 (hailer/hailerref21.Pool).Can
    rintro ⟨can, y⟩ hcan
    dsimp only [List.cons_append, List.nil_append] at hcan ⊢
    refine WL.y (Yl.assign rfl) rfl ?_ -- t7
    refine WL.nil ?_
    refine WC.seq ?_
    refine WC.region ?_
    refine WL.y (Yl.assign rfl) rfl ?_ -- t8
    refine WL.nil ?_
    refine WC.block ?_
    have hb := hci.begin
    have hcl2 := hcan.len
    subst g14
    refine WC.loop (α := Nat × List Bool × Bool) (fun s => [(0, .slice al ps.length cl), (5, .slice ao13 d.length c13), (6, .bool s.2.2), (7, .slice y.1 can.length y.2), (8, .int .i64 (s.1 : Int))]) (fun s => [ownR (.slice ao13 d.length c13) 4 1 d.length (vcs Value.bool s.2.1), ownR (.slice y.1 can.length y.2) 4 1 can.length (vcs Value.bool can)]) (fun s => s.1 ≤ ps.length ∧ ClI (nds ps) g d s.1 s.2.1 s.2.2) (fun s => ps.length - s.1) (0, d, false) ⟨Nat.zero_le _, hb⟩ ⟨(by repeat (first | exact Sub.nil | refine Sub.cons rfl ?_)), _, (by repeat (first | exact TakeL.nil | (apply TakeL.cons; · repeat (first | exact Take1.head | apply Take1.tail))))⟩ ?_
    rintro ⟨i, e, mo⟩ ⟨hi, he⟩
    dsimp only at hi he ⊢
    have hel := he.len
    refine WC.seq ?_
    refine WC.seq ?_
    refine WC.region ?_
    refine WL.y (Yl.move rfl) rfl ?_ -- t18
    refine WL.y (Yl.move rfl) rfl ?_ -- t19
    refine WL.y (Yl.len un28 rfl) rfl ?_ -- t20
    refine WL.y (Yl.lss rfl rfl) rfl ?_ -- t21
    refine WL.nil ?_
    refine WC.condD rfl (fun g21 => ?_) (fun g21 => ?_)
    · refine WC.skip ?_
      refine WC.seq ?_
      refine WC.block ?_
      refine WC.midX (α := Unit) (fun _ => [(0, .slice al ps.length cl), (5, .slice ao13 d.length c13), (6, .bool mo), (7, .slice y.1 can.length y.2), (8, .int .i64 (i : Int))]) (fun _ => [ownR (.slice ao13 d.length c13) 4 1 d.length (vcs Value.bool e), ownR (.slice y.1 can.length y.2) 4 1 can.length (vcs Value.bool can)]) (fun _ => ∃ z, ps[i]? = some z ∧ cP e i ∧ (z.nd.k = 2 ∨ z.nd.k = 4 ∧ ∃ x, z.nd.pt[0]? = some x ∧ cP can x)) ?_ ?_
      · refine WC.seq ?_
        have hil : i < ps.length := by have := g21; omega
        obtain ⟨z, hz⟩ : ∃ z, ps[i]? = some z := ⟨_, List.getElem?_eq_getElem hil⟩
        have hzm := List.mem_of_getElem? hz
        have hzn := hP.nd i _ (nds_get hz)
        obtain ⟨b, hb⟩ : ∃ z, e[i]? = some z := ⟨_, List.getElem?_eq_getElem (by omega)⟩
        refine WC.region ?_
        refine WL.y (Yl.move rfl) rfl ?_ -- t24
        refine WL.y (Yl.move rfl) rfl ?_ -- t25
        refine WL.y (Yl.index un44 sz4 rfl rfl (Reads.of (r := ownR (.slice ao13 d.length c13) 4 1 d.length (vcs Value.bool e)) RdOf.own (by repeat (first | exact Take1.head | apply Take1.tail))) rfl (by omega)) rfl ?_ -- t26
        refine WL.y (Yl.loadV vtB boAll rfl (Reads.of (r := ownR (.slice ao13 d.length c13) 4 1 d.length (vcs Value.bool e)) RdOf.own (by repeat (first | exact Take1.head | apply Take1.tail))) (by omega) hb) rfl ?_
        refine WL.y (Yl.not rfl) rfl ?_ -- t28
        refine WL.y (Yl.move rfl) rfl ?_ -- t29
        refine WL.both (t := 29) rfl (fun g29 => ?_) (fun g29 => ?_)
        · refine WL.off rfl rfl rfl rfl ?_ -- t30
          refine WL.off rfl rfl rfl rfl ?_ -- t31
          refine WL.off rfl rfl rfl rfl ?_ -- t32
          refine WL.off rfl rfl rfl rfl ?_ -- t33
          refine WL.off rfl rfl rfl rfl ?_ -- t34
          refine WL.off rfl rfl rfl rfl ?_ -- t35
          refine WL.off rfl rfl rfl rfl ?_ -- t36
          refine WL.offU rfl rfl rfl ?_ -- t37
          refine WL.offU rfl rfl rfl ?_ -- t38
          refine WL.offU rfl rfl rfl ?_ -- t39
          refine WL.offU rfl rfl rfl ?_ -- t40
          refine WL.offU rfl rfl rfl ?_ -- t41
          refine WL.offU rfl rfl rfl ?_ -- t42
          refine WL.offU rfl rfl rfl ?_ -- t43
          refine WL.offU rfl rfl rfl ?_ -- t44
          refine WL.offU rfl rfl rfl ?_ -- t45
          refine WL.offU rfl rfl rfl ?_ -- t46
          refine WL.offU rfl rfl rfl ?_ -- t47
          refine WL.offU rfl rfl rfl ?_ -- t48
          refine WL.offU rfl rfl rfl ?_ -- t49
          refine WL.offU rfl rfl rfl ?_ -- t50
          refine WL.offU rfl rfl rfl ?_ -- t51
          refine WL.offU rfl rfl rfl ?_ -- t52
          refine WL.offU rfl rfl rfl ?_ -- t53
          refine WL.offU rfl rfl rfl ?_ -- t54
          refine WL.offU rfl rfl rfl ?_ -- t55
          refine WL.off rfl rfl rfl rfl ?_ -- t56
          refine WL.y (Yl.pickT rfl rfl) rfl ?_ -- t57
          refine WL.nil ?_
          refine WC.condT rfl (by first | rfl | (simp; done) | (simp; omega)) ?_
          refine WC.exit ?_
          refine WC.region ?_
          refine WL.y (Yl.move rfl) rfl ?_ -- t22
          refine WL.y (Yl.add rfl rfl (IntWalk.i64_in _ (by omega))) rfl ?_ -- t23
          refine WL.y (Yl.assign rfl) rfl ?_ -- t8
          refine WL.nil ?_
          exact ⟨rfl, (i + 1, e, mo), ⟨by dsimp only; omega, he.skip (nds_get hz) (.inl (by rw [hb]; exact congrArg some (by simpa using g29))) hcan⟩, by dsimp only; omega, (by repeat (first | exact Sub.nil | refine Sub.cons rfl ?_)), _, (by repeat (first | exact TakeL.nil | (apply TakeL.cons; · repeat (first | exact Take1.head | apply Take1.tail))))⟩
        · refine WL.on rfl rfl ?_
          refine WL.y (Yl.move rfl) rfl ?_ -- t30
          refine WL.on rfl rfl ?_
          refine WL.y (Yl.move rfl) rfl ?_ -- t31
          refine WL.on rfl rfl ?_
          refine WL.y (Yl.index un28 sz38 rfl rfl (Reads.s hp.rows) rfl (by omega)) rfl ?_ -- t32
          refine WL.on rfl rfl ?_
          refine WL.y (Yl.fieldE fo38_0 rfl vtPn pnAll (Reads.s hp.rows) hz) rfl ?_ -- t33
          refine WL.on rfl rfl ?_
          refine WL.y (Yl.loadF on5 rfl vtPn pnAll (Reads.s hp.rows) hz (by rfl)) rfl ?_ -- t34
          refine WL.on rfl rfl ?_
          refine WL.y (Yl.neq rfl rfl) rfl ?_ -- t35
          refine WL.on rfl rfl ?_
          refine WL.y (Yl.move rfl) rfl ?_ -- t36
          refine WL.both (t := 36) rfl (fun g36 => ?_) (fun g36 => ?_)
          · refine WL.on rfl rfl ?_
            refine WL.y (Yl.move rfl) rfl ?_ -- t37
            refine WL.on rfl rfl ?_
            refine WL.y (Yl.move rfl) rfl ?_ -- t38
            refine WL.on rfl rfl ?_
            refine WL.y (Yl.index un28 sz38 rfl rfl (Reads.s hp.rows) rfl (by omega)) rfl ?_ -- t39
            refine WL.on rfl rfl ?_
            refine WL.y (Yl.fieldE fo38_0 rfl vtPn pnAll (Reads.s hp.rows) hz) rfl ?_ -- t40
            refine WL.on rfl rfl ?_
            refine WL.y (Yl.loadF on5 rfl vtPn pnAll (Reads.s hp.rows) hz (by rfl)) rfl ?_ -- t41
            refine WL.on rfl rfl ?_
            refine WL.y (Yl.neq rfl rfl) rfl ?_ -- t42
            refine WL.on rfl rfl ?_
            refine WL.y (Yl.move rfl) rfl ?_ -- t43
            refine WL.both (t := 43) rfl (fun g43 => ?_) (fun g43 => ?_)
            · refine WL.off rfl rfl rfl rfl ?_ -- t44
              refine WL.off rfl rfl rfl rfl ?_ -- t45
              refine WL.off rfl rfl rfl rfl ?_ -- t46
              refine WL.off rfl rfl rfl rfl ?_ -- t47
              refine WL.off rfl rfl rfl rfl ?_ -- t48
              refine WL.off rfl rfl rfl rfl ?_ -- t49
              refine WL.off rfl rfl rfl rfl ?_ -- t50
              refine WL.off rfl rfl rfl rfl ?_ -- t51
              refine WL.off rfl rfl rfl rfl ?_ -- t52
              refine WL.off rfl rfl rfl rfl ?_ -- t53
              refine WL.off rfl rfl rfl rfl ?_ -- t54
              refine WL.on rfl rfl ?_
              refine WL.y (Yl.pickT rfl rfl) rfl ?_ -- t55
              refine WL.on rfl rfl ?_
              refine WL.y (Yl.pickT rfl rfl) rfl ?_ -- t56
              refine WL.y (Yl.pickF rfl rfl) rfl ?_ -- t57
              refine WL.nil ?_
              refine WC.condT rfl (by first | rfl | (simp; done) | (simp; omega)) ?_
              refine WC.exit ?_
              refine WC.region ?_
              refine WL.y (Yl.move rfl) rfl ?_ -- t22
              refine WL.y (Yl.add rfl rfl (IntWalk.i64_in _ (by omega))) rfl ?_ -- t23
              refine WL.y (Yl.assign rfl) rfl ?_ -- t8
              refine WL.nil ?_
              exact ⟨rfl, (i + 1, e, mo), ⟨by dsimp only; omega, he.skip (nds_get hz) (.inr (.inl ⟨by simpa using g36, by simpa using g43⟩)) hcan⟩, by dsimp only; omega, (by repeat (first | exact Sub.nil | refine Sub.cons rfl ?_)), _, (by repeat (first | exact TakeL.nil | (apply TakeL.cons; · repeat (first | exact Take1.head | apply Take1.tail))))⟩
            · refine WL.on rfl rfl ?_
              have h4 : z.nd.k = 4 := by simpa using g43
              obtain ⟨x, y', hxy⟩ := two_parts hzn.s (.inr h4)
              have hx0 : z.nd.pt[0]? = some x := by rw [hxy]; rfl
              have hpl : z.nd.pt.length = 2 := by rw [hxy]; rfl
              have hxl := hzn.p x (by rw [hxy]; simp)
              obtain ⟨bx, hbx⟩ : ∃ z, can[x]? = some z := ⟨_, List.getElem?_eq_getElem (by omega)⟩
              refine WL.y (Yl.move rfl) rfl ?_ -- t44
              refine WL.on rfl rfl ?_
              refine WL.y (Yl.move rfl) rfl ?_ -- t45
              refine WL.on rfl rfl ?_
              refine WL.y (Yl.move rfl) rfl ?_ -- t46
              refine WL.on rfl rfl ?_
              refine WL.y (Yl.index un28 sz38 rfl rfl (Reads.s hp.rows) rfl (by omega)) rfl ?_ -- t47
              refine WL.on rfl rfl ?_
              refine WL.y (Yl.fieldE fo38_2 rfl vtPn pnAll (Reads.s hp.rows) hz) rfl ?_ -- t48
              refine WL.on rfl rfl ?_
              refine WL.y (Yl.loadF on29 rfl vtPn pnAll (Reads.s hp.rows) hz (by rfl)) rfl ?_ -- t49
              refine WL.on rfl rfl ?_
              refine WL.y (Yl.index (j := 0) un29 sz3 rfl rfl (Reads.s (hp.pts z hzm)) rfl (by omega)) rfl ?_ -- t50
              refine WL.on rfl rfl ?_
              refine WL.y (Yl.loadE (j := 0) on3 rfl (Reads.s (hp.pts z hzm)) (iN_cell hx0)) rfl ?_
              refine WL.on rfl rfl ?_
              refine WL.y (Yl.index un44 sz4 rfl rfl (Reads.of (r := ownR (.slice y.1 can.length y.2) 4 1 can.length (vcs Value.bool can)) RdOf.own (by repeat (first | exact Take1.head | apply Take1.tail))) (j := x) rfl (by omega)) rfl ?_ -- t52
              refine WL.on rfl rfl ?_
              refine WL.y (Yl.loadV vtB boAll rfl (Reads.of (r := ownR (.slice y.1 can.length y.2) 4 1 can.length (vcs Value.bool can)) RdOf.own (by repeat (first | exact Take1.head | apply Take1.tail))) rfl hbx) rfl ?_ -- t53
              refine WL.on rfl rfl ?_
              refine WL.y (Yl.not rfl) rfl ?_ -- t54
              refine WL.on rfl rfl ?_
              refine WL.y (Yl.pickF rfl rfl) rfl ?_ -- t55
              refine WL.on rfl rfl ?_
              refine WL.y (Yl.pickT rfl rfl) rfl ?_ -- t56
              refine WL.y (Yl.pickF rfl rfl) rfl ?_ -- t57
              refine WL.nil ?_
              refine WC.cond rfl (fun g57 => ?_) (fun g57 => ?_)
              · refine WC.exit ?_
                refine WC.region ?_
                refine WL.y (Yl.move rfl) rfl ?_ -- t22
                refine WL.y (Yl.add rfl rfl (IntWalk.i64_in _ (by omega))) rfl ?_ -- t23
                refine WL.y (Yl.assign rfl) rfl ?_ -- t8
                refine WL.nil ?_
                exact ⟨rfl, (i + 1, e, mo), ⟨by dsimp only; omega, he.skip (nds_get hz) (.inr (.inr ⟨h4, x, hx0, by omega, by rw [hbx]; exact congrArg some (by simpa using g57)⟩)) hcan⟩, by dsimp only; omega, (by repeat (first | exact Sub.nil | refine Sub.cons rfl ?_)), _, (by repeat (first | exact TakeL.nil | (apply TakeL.cons; · repeat (first | exact Take1.head | apply Take1.tail))))⟩
              · refine WC.skip ?_
                exact ⟨rfl, (), ⟨z, hz, (cP_at hb).2 (by simpa using g29), .inr ⟨h4, x, hx0, (cP_at hbx).2 (by simpa using g57)⟩⟩, (by repeat (first | exact Sub.nil | refine Sub.cons rfl ?_)), _, (by repeat (first | exact TakeL.nil | (apply TakeL.cons; · repeat (first | exact Take1.head | apply Take1.tail))))⟩
          · refine WL.off rfl rfl rfl rfl ?_ -- t37
            refine WL.off rfl rfl rfl rfl ?_ -- t38
            refine WL.off rfl rfl rfl rfl ?_ -- t39
            refine WL.off rfl rfl rfl rfl ?_ -- t40
            refine WL.off rfl rfl rfl rfl ?_ -- t41
            refine WL.off rfl rfl rfl rfl ?_ -- t42
            refine WL.off rfl rfl rfl rfl ?_ -- t43
            refine WL.offU rfl rfl rfl ?_ -- t44
            refine WL.offU rfl rfl rfl ?_ -- t45
            refine WL.offU rfl rfl rfl ?_ -- t46
            refine WL.offU rfl rfl rfl ?_ -- t47
            refine WL.offU rfl rfl rfl ?_ -- t48
            refine WL.offU rfl rfl rfl ?_ -- t49
            refine WL.offU rfl rfl rfl ?_ -- t50
            refine WL.offU rfl rfl rfl ?_ -- t51
            refine WL.offU rfl rfl rfl ?_ -- t52
            refine WL.offU rfl rfl rfl ?_ -- t53
            refine WL.offU rfl rfl rfl ?_ -- t54
            refine WL.off rfl rfl rfl rfl ?_ -- t55
            refine WL.on rfl rfl ?_
            refine WL.y (Yl.pickF rfl rfl) rfl ?_ -- t56
            refine WL.y (Yl.pickF rfl rfl) rfl ?_ -- t57
            refine WL.nil ?_
            refine WC.condF rfl (by first | rfl | (simp; done) | (simp; omega)) ?_
            refine WC.skip ?_
            exact ⟨rfl, (), ⟨z, hz, (cP_at hb).2 (by simpa using g29), .inl (by simpa using g36)⟩, (by repeat (first | exact Sub.nil | refine Sub.cons rfl ?_)), _, (by repeat (first | exact TakeL.nil | (apply TakeL.cons; · repeat (first | exact Take1.head | apply Take1.tail))))⟩
      · rintro ⟨⟩ ⟨z, hz, hei, hk⟩
        have hil := (List.getElem?_eq_some_iff.1 hz).1
        have hzm := List.mem_of_getElem? hz
        have hzn := hP.nd i _ (nds_get hz)
        have hzg := nds_get hz
        obtain ⟨x, y', hxy⟩ := two_parts hzn.s (hk.imp id And.left)
        have hpl : z.nd.pt.length = 2 := by rw [hxy]; rfl
        have hxl := hzn.p x (by rw [hxy]; simp)
        have hyl := hzn.p y' (by rw [hxy]; simp)
        refine WC.seq ?_
        refine WC.region ?_
        refine WL.y (Yl.assign rfl) rfl ?_ -- t9
        refine WL.nil ?_
        refine WC.block ?_
        refine WC.loop (α := Nat × List Bool × Bool) (fun s => [(0, .slice al ps.length cl), (5, .slice ao13 d.length c13), (6, .bool s.2.2), (7, .slice y.1 can.length y.2), (8, .int .i64 (i : Int)), (9, .int .i64 (s.1 : Int))]) (fun s => [ownR (.slice ao13 d.length c13) 4 1 d.length (vcs Value.bool s.2.1), ownR (.slice y.1 can.length y.2) 4 1 can.length (vcs Value.bool can)]) (fun s => s.1 ≤ 2 ∧ ClI (nds ps) g d i s.2.1 s.2.2 ∧ cP s.2.1 i ∧ (1 ≤ s.1 → z.nd.k = 2 → cP s.2.1 x) ∧ (2 ≤ s.1 → cP s.2.1 y')) (fun s => 2 - s.1) (0, e, mo) ⟨Nat.zero_le _, he, hei, (fun h => by dsimp only at h; omega), (fun h => by dsimp only at h; omega)⟩ ⟨(by repeat (first | exact Sub.nil | refine Sub.cons rfl ?_)), _, (by repeat (first | exact TakeL.nil | (apply TakeL.cons; · repeat (first | exact Take1.head | apply Take1.tail))))⟩ ?_
        clear he hei hel
        rintro ⟨k, e, mo⟩ ⟨hk2, he, hei, hx1, hy1⟩
        dsimp only at hk2 he hei hx1 hy1 ⊢
        have hel := he.len
        have hsnd : z.nd.k = 2 ∨ k = 1 → ∀ j, z.nd.pt[k]? = some j → ClP (tsP (nds ps) (cP g)) ((trs (nds ps)).getD j zT) := by
          intro hkk j hj
          have hin : i < (nds ps).length := by omega
          have hs := clR_sound hP he.snd hin hei
          have hpi : (nds ps)[i] = z.nd := by
            have := List.getElem?_eq_getElem hin
            rw [hzg] at this
            exact (Option.some.inj this).symm
          rw [hpi] at hs
          by_cases h2 : z.nd.k = 2
          · exact hs.1 h2 j (List.mem_of_getElem? hj)
          · obtain ⟨h4, q, hq, hcq⟩ := hk.resolve_left h2
            have hk1 := hkk.resolve_left h2
            have e1 : z.nd.pt.getD 0 0 = q := by simp [List.getD, hq]
            have e2 : z.nd.pt.getD 1 0 = j := by rw [hk1] at hj; simp [List.getD, hj]
            rw [e1, e2] at hs
            refine hs.2 h4 (hcan.sub he ?_ hcq)
            have := hzn.p q (List.mem_of_getElem? hq)
            omega
        refine WC.seq ?_
        refine WC.seq ?_
        refine WC.region ?_
        refine WL.y (Yl.move rfl) rfl ?_ -- t58
        refine WL.y (Yl.lss rfl rfl) rfl ?_ -- t59
        refine WL.nil ?_
        refine WC.condD rfl (fun g59 => ?_) (fun g59 => ?_)
        · refine WC.skip ?_
          refine WC.seq ?_
          refine WC.block ?_
          refine WC.seq ?_
          have hkl : k < z.nd.pt.length := by have := g59; omega
          obtain ⟨j, hj⟩ : ∃ j, z.nd.pt[k]? = some j := ⟨_, List.getElem?_eq_getElem hkl⟩
          have hjl := hzn.p j (List.mem_of_getElem? hj)
          obtain ⟨b, hb⟩ : ∃ z, e[j]? = some z := ⟨_, List.getElem?_eq_getElem (by omega)⟩
          have hjx : k = 0 → j = x := fun h => by rw [h, hxy] at hj; cases hj; rfl
          have hjy : k = 1 → j = y' := fun h => by rw [h, hxy] at hj; cases hj; rfl
          refine WC.region ?_
          refine WL.y (Yl.move rfl) rfl ?_ -- t62
          refine WL.y (Yl.move rfl) rfl ?_ -- t63
          refine WL.y (Yl.index un28 sz38 rfl rfl (Reads.s hp.rows) rfl (by omega)) rfl ?_ -- t64
          refine WL.y (Yl.fieldE fo38_2 rfl vtPn pnAll (Reads.s hp.rows) hz) rfl ?_ -- t65
          refine WL.y (Yl.loadF on29 rfl vtPn pnAll (Reads.s hp.rows) hz (by rfl)) rfl ?_ -- t66
          refine WL.y (Yl.move rfl) rfl ?_ -- t67
          refine WL.y (Yl.index un29 sz3 rfl rfl (Reads.s (hp.pts z hzm)) rfl (by omega)) rfl ?_ -- t68
          refine WL.y (Yl.loadE (j := k) on3 rfl (Reads.s (hp.pts z hzm)) (iN_cell hj)) rfl ?_
          refine WL.y (Yl.assign rfl) rfl ?_ -- t10
          refine WL.nil ?_
          refine WC.seq ?_
          refine WC.region ?_
          refine WL.y (Yl.move rfl) rfl ?_ -- t70
          refine WL.y (Yl.eql rfl rfl) rfl ?_ -- t71
          refine WL.y (Yl.move rfl) rfl ?_ -- t72
          refine WL.both (t := 72) rfl (fun g72 => ?_) (fun g72 => ?_)
          · refine WL.off rfl rfl rfl rfl ?_ -- t73
            refine WL.off rfl rfl rfl rfl ?_ -- t74
            refine WL.off rfl rfl rfl rfl ?_ -- t75
            refine WL.off rfl rfl rfl rfl ?_ -- t76
            refine WL.off rfl rfl rfl rfl ?_ -- t77
            refine WL.off rfl rfl rfl rfl ?_ -- t78
            refine WL.y (Yl.pickT rfl rfl) rfl ?_ -- t79
            refine WL.y (Yl.move rfl) rfl ?_ -- t80
            refine WL.on rfl rfl ?_
            refine WL.y (Yl.move rfl) rfl ?_ -- t81
            refine WL.on rfl rfl ?_
            refine WL.y (Yl.move rfl) rfl ?_ -- t82
            refine WL.on rfl rfl ?_
            refine WL.y (Yl.index un44 sz4 rfl rfl (Reads.of (r := ownR (.slice ao13 d.length c13) 4 1 d.length (vcs Value.bool e)) RdOf.own (by repeat (first | exact Take1.head | apply Take1.tail))) (j := j) rfl (by omega)) rfl ?_ -- t83
            refine WL.on rfl rfl ?_
            refine WL.y (Yl.loadV vtB boAll rfl (Reads.of (r := ownR (.slice ao13 d.length c13) 4 1 d.length (vcs Value.bool e)) RdOf.own (by repeat (first | exact Take1.head | apply Take1.tail))) (by omega) hb) rfl ?_
            refine WL.on rfl rfl ?_
            refine WL.y (Yl.not rfl) rfl ?_ -- t85
            refine WL.y (Yl.pickT rfl rfl) rfl ?_ -- t86
            refine WL.nil ?_
            refine WC.cond rfl (fun g86 => ?_) (fun g86 => ?_)
            · refine WC.seq ?_
              refine WC.region ?_
              refine WL.y (Yl.move rfl) rfl ?_ -- t87
              refine WL.y (Yl.move rfl) rfl ?_ -- t88
              refine WL.y (Yl.index un44 sz4 rfl rfl (Reads.of (r := ownR (.slice ao13 d.length c13) 4 1 d.length (vcs Value.bool e)) RdOf.own (by repeat (first | exact Take1.head | apply Take1.tail))) (j := j) rfl (by omega)) rfl ?_ -- t89
              refine WL.sto (Sto.elemV (j := j) (u := true) vtB boAll trivial rfl rfl (by repeat (first | exact Take1.head | apply Take1.tail)) (by omega) (by omega)) (fun _ h => nomatch h) ?_
              refine WL.nil ?_
              refine WC.region ?_
              refine WL.y (Yl.assign rfl) rfl ?_ -- t6
              refine WL.nil ?_
              refine WC.region ?_
              refine WL.y (Yl.move rfl) rfl ?_ -- t60
              refine WL.y (Yl.add rfl rfl (IntWalk.i64_in _ (by omega))) rfl ?_ -- t61
              refine WL.y (Yl.assign rfl) rfl ?_ -- t9
              refine WL.nil ?_
              have hbf : b = false := by cases b with | false => rfl | true => cases g86
              subst hbf
              have hk1 : k = 1 := by have := of_decide_eq_true g72; omega
              refine ⟨rfl, (k + 1, e.set j true, true), ⟨by dsimp only; omega, he.put (by omega) hb (hsnd (.inr hk1) j hj), (cP_set (by omega)).2 (.inl hei), fun _ h2 => (cP_set (by omega)).2 (.inl (hx1 (by omega) h2)), fun _ => (cP_set (by omega)).2 (.inr (hjy hk1).symm)⟩, by dsimp only; omega, (by repeat (first | exact Sub.nil | refine Sub.cons rfl ?_)), _, (by repeat (first | exact TakeL.nil | (apply TakeL.cons; · repeat (first | exact Take1.head | apply Take1.tail))))⟩
            · refine WC.skip ?_
              refine WC.region ?_
              refine WL.y (Yl.move rfl) rfl ?_ -- t60
              refine WL.y (Yl.add rfl rfl (IntWalk.i64_in _ (by omega))) rfl ?_ -- t61
              refine WL.y (Yl.assign rfl) rfl ?_ -- t9
              refine WL.nil ?_
              have hbf : b = true := by cases b with | true => rfl | false => cases g86
              subst hbf
              have hk1 : k = 1 := by have := of_decide_eq_true g72; omega
              refine ⟨rfl, (k + 1, e, mo), ⟨by dsimp only; omega, he, hei, fun _ h2 => hx1 (by omega) h2, fun _ => by rw [← hjy hk1]; exact (cP_at hb).2 rfl⟩, by dsimp only; omega, (by repeat (first | exact Sub.nil | refine Sub.cons rfl ?_)), _, (by repeat (first | exact TakeL.nil | (apply TakeL.cons; · repeat (first | exact Take1.head | apply Take1.tail))))⟩
          · refine WL.on rfl rfl ?_
            refine WL.y (Yl.move rfl) rfl ?_ -- t73
            refine WL.on rfl rfl ?_
            refine WL.y (Yl.move rfl) rfl ?_ -- t74
            refine WL.on rfl rfl ?_
            refine WL.y (Yl.index un28 sz38 rfl rfl (Reads.s hp.rows) rfl (by omega)) rfl ?_ -- t75
            refine WL.on rfl rfl ?_
            refine WL.y (Yl.fieldE fo38_0 rfl vtPn pnAll (Reads.s hp.rows) hz) rfl ?_ -- t76
            refine WL.on rfl rfl ?_
            refine WL.y (Yl.loadF on5 rfl vtPn pnAll (Reads.s hp.rows) hz (by rfl)) rfl ?_ -- t77
            refine WL.on rfl rfl ?_
            refine WL.y (Yl.eql rfl rfl) rfl ?_ -- t78
            refine WL.y (Yl.pickF rfl rfl) rfl ?_ -- t79
            refine WL.y (Yl.move rfl) rfl ?_ -- t80
            refine WL.both (t := 80) rfl (fun g80 => ?_) (fun g80 => ?_)
            · refine WL.on rfl rfl ?_
              refine WL.y (Yl.move rfl) rfl ?_ -- t81
              refine WL.on rfl rfl ?_
              refine WL.y (Yl.move rfl) rfl ?_ -- t82
              refine WL.on rfl rfl ?_
              refine WL.y (Yl.index un44 sz4 rfl rfl (Reads.of (r := ownR (.slice ao13 d.length c13) 4 1 d.length (vcs Value.bool e)) RdOf.own (by repeat (first | exact Take1.head | apply Take1.tail))) (j := j) rfl (by omega)) rfl ?_ -- t83
              refine WL.on rfl rfl ?_
              refine WL.y (Yl.loadV vtB boAll rfl (Reads.of (r := ownR (.slice ao13 d.length c13) 4 1 d.length (vcs Value.bool e)) RdOf.own (by repeat (first | exact Take1.head | apply Take1.tail))) (by omega) hb) rfl ?_
              refine WL.on rfl rfl ?_
              refine WL.y (Yl.not rfl) rfl ?_ -- t85
              refine WL.y (Yl.pickT rfl rfl) rfl ?_ -- t86
              refine WL.nil ?_
              refine WC.cond rfl (fun g86 => ?_) (fun g86 => ?_)
              · refine WC.seq ?_
                refine WC.region ?_
                refine WL.y (Yl.move rfl) rfl ?_ -- t87
                refine WL.y (Yl.move rfl) rfl ?_ -- t88
                refine WL.y (Yl.index un44 sz4 rfl rfl (Reads.of (r := ownR (.slice ao13 d.length c13) 4 1 d.length (vcs Value.bool e)) RdOf.own (by repeat (first | exact Take1.head | apply Take1.tail))) (j := j) rfl (by omega)) rfl ?_ -- t89
                refine WL.sto (Sto.elemV (j := j) (u := true) vtB boAll trivial rfl rfl (by repeat (first | exact Take1.head | apply Take1.tail)) (by omega) (by omega)) (fun _ h => nomatch h) ?_
                refine WL.nil ?_
                refine WC.region ?_
                refine WL.y (Yl.assign rfl) rfl ?_ -- t6
                refine WL.nil ?_
                refine WC.region ?_
                refine WL.y (Yl.move rfl) rfl ?_ -- t60
                refine WL.y (Yl.add rfl rfl (IntWalk.i64_in _ (by omega))) rfl ?_ -- t61
                refine WL.y (Yl.assign rfl) rfl ?_ -- t9
                refine WL.nil ?_
                have hbf : b = false := by cases b with | false => rfl | true => cases g86
                subst hbf
                have hk0 : k = 0 := by have := of_decide_eq_false g72; have := g59; omega
                have h2 : z.nd.k = 2 := by simpa using g80
                refine ⟨rfl, (k + 1, e.set j true, true), ⟨by dsimp only; omega, he.put (by omega) hb (hsnd (.inl h2) j hj), (cP_set (by omega)).2 (.inl hei), fun _ _ => (cP_set (by omega)).2 (.inr (hjx hk0).symm), fun h => by dsimp only at h; omega⟩, by dsimp only; omega, (by repeat (first | exact Sub.nil | refine Sub.cons rfl ?_)), _, (by repeat (first | exact TakeL.nil | (apply TakeL.cons; · repeat (first | exact Take1.head | apply Take1.tail))))⟩
              · refine WC.skip ?_
                refine WC.region ?_
                refine WL.y (Yl.move rfl) rfl ?_ -- t60
                refine WL.y (Yl.add rfl rfl (IntWalk.i64_in _ (by omega))) rfl ?_ -- t61
                refine WL.y (Yl.assign rfl) rfl ?_ -- t9
                refine WL.nil ?_
                have hbf : b = true := by cases b with | true => rfl | false => cases g86
                subst hbf
                have hk0 : k = 0 := by have := of_decide_eq_false g72; have := g59; omega
                refine ⟨rfl, (k + 1, e, mo), ⟨by dsimp only; omega, he, hei, fun _ _ => by rw [← hjx hk0]; exact (cP_at hb).2 rfl, fun h => by dsimp only at h; omega⟩, by dsimp only; omega, (by repeat (first | exact Sub.nil | refine Sub.cons rfl ?_)), _, (by repeat (first | exact TakeL.nil | (apply TakeL.cons; · repeat (first | exact Take1.head | apply Take1.tail))))⟩
            · refine WL.off rfl rfl rfl rfl ?_ -- t81
              refine WL.off rfl rfl rfl rfl ?_ -- t82
              refine WL.off rfl rfl rfl rfl ?_ -- t83
              refine WL.off rfl rfl rfl rfl ?_ -- t84
              refine WL.off rfl rfl rfl rfl ?_ -- t85
              refine WL.y (Yl.pickF rfl rfl) rfl ?_ -- t86
              refine WL.nil ?_
              refine WC.condF rfl (by first | rfl | (simp; done) | (simp; omega)) ?_
              refine WC.skip ?_
              refine WC.region ?_
              refine WL.y (Yl.move rfl) rfl ?_ -- t60
              refine WL.y (Yl.add rfl rfl (IntWalk.i64_in _ (by omega))) rfl ?_ -- t61
              refine WL.y (Yl.assign rfl) rfl ?_ -- t9
              refine WL.nil ?_
              have hk0 : k = 0 := by have := of_decide_eq_false g72; have := g59; omega
              have h2 : z.nd.k ≠ 2 := by simpa using g80
              refine ⟨rfl, (k + 1, e, mo), ⟨by dsimp only; omega, he, hei, fun _ q => absurd q h2, fun h => by dsimp only at h; omega⟩, by dsimp only; omega, (by repeat (first | exact Sub.nil | refine Sub.cons rfl ?_)), _, (by repeat (first | exact TakeL.nil | (apply TakeL.cons; · repeat (first | exact Take1.head | apply Take1.tail))))⟩
        · refine WC.exit ?_
          refine WC.region ?_
          refine WL.y (Yl.move rfl) rfl ?_ -- t22
          refine WL.y (Yl.add rfl rfl (IntWalk.i64_in _ (by omega))) rfl ?_ -- t23
          refine WL.y (Yl.assign rfl) rfl ?_ -- t8
          refine WL.nil ?_
          have hkk : k = 2 := by have := g59; omega
          exact ⟨rfl, (i + 1, e, mo), ⟨by dsimp only; omega, he.over hzg hxy (fun h => hx1 (by omega) h) (hy1 (by omega))⟩, by dsimp only; omega, (by repeat (first | exact Sub.nil | refine Sub.cons rfl ?_)), _, (by repeat (first | exact TakeL.nil | (apply TakeL.cons; · repeat (first | exact Take1.head | apply Take1.tail))))⟩
    · refine WC.exit ?_
      have hil : i = ps.length := by have := g21; omega
      subst hil
      have hed : e.length = d.length := by omega
      refine ⟨rfl, (e, mo), ⟨d, ps.length, mo, he, fun h => ⟨hnl.symm, h⟩⟩, ?_, by dsimp only; rw [hed]; exact (by repeat (first | exact Sub.nil | refine Sub.cons rfl ?_)), _, by dsimp only; rw [hed]; exact (by repeat (first | exact TakeL.nil | (apply TakeL.cons; · repeat (first | exact Take1.head | apply Take1.tail))))⟩
      dsimp only
      cases mo with
      | true => have := he.yes rfl; simp; omega
      | false => rw [(he.no rfl).1]; simp
  · refine WC.exit ?_
    refine WC.seq ?_
    refine WC.region ?_
    refine WL.y (Yl.move rfl) rfl ?_ -- t90
    refine WL.y (Yl.assign rfl) rfl ?_ -- t4
    refine WL.nil ?_
    refine WC.ret ?_
    repeat (first | (with_reducible refine peelT ?_) | (with_reducible refine peelB ?_) | (with_reducible refine peelTX ?_) | (with_reducible refine peelBX ?_) | (with_reducible refine peelBN ?_) | (with_reducible refine peelBO rfl ?_))
    obtain ⟨rfl, rfl⟩ := hmf g14
    exact ret1 (.inr rfl) Try.results21 rfl fun w' h => ⟨(d, ao13, c13), hci.done hP, rfl, h.sub (by repeat (first | exact TakeL.nil | (apply TakeL.cons; · repeat (first | exact Take1.head | apply Take1.tail))))⟩
end Go.Proofs.Ytifhkjcimhhaiaa

namespace Go.Proofs.Ytifhkjcimhhaiaa
open Go Go.RowKit
theorem sum_take_succ {l : List Nat} {i x : Nat} (h : l[i]? = some x) : (l.take (i + 1)).sum = (l.take i).sum + x := by rw [← take_snoc _ _ _ h, List.sum_append]; simp
theorem ints_repl (n : Nat) : List.replicate n (Value.int .i64 0) = ints .i64 (List.replicate n 0) := by unfold ints; rw [List.map_replicate]
theorem intsG_at {k : IntKind} {S : List Int} {i : Nat} {x : Int} (h : S[i]? = some x) : (ints k S)[i]? = some (.int k x) := by unfold ints; rw [List.getElem?_map, h]; rfl
structure HvS where
  i : Nat
  S : List Int
/-- Sizes so far. -/
structure HvI (p : List Nd) (s : HvS) : Prop where
  le : s.i ≤ p.length
  len : s.S.length = p.length
  done : ∀ j, j < s.i → s.S[j]? = some (((szs p).getD j 0 : Nat) : Int)
  sum : ((szs p).take s.i).sum ≤ 4000
  pts : ∀ j nd, j < s.i → p[j]? = some nd → nd.pt.length ≤ 40
theorem HvI.small {p : List Nd} {s : HvS} (h : HvI p s) {j : Nat} (hj : j < s.i) : (szs p).getD j 0 ≤ 4000 := by
  have hjl : j < (szs p).length := by rw [szs_len]; have := h.le; omega
  have : (szs p).getD j 0 ∈ (szs p).take s.i := by
    rw [List.mem_take_iff_getElem]
    exact ⟨j, by omega, by simp [List.getD, List.getElem?_eq_getElem hjl]⟩
  have := sum_mem this
  have := h.sum
  omega
theorem psum_le {s : List Nat} {l : List Nat} {m : Nat} (h : ∀ j ∈ l, s.getD j 0 ≤ m) : (l.map fun j => s.getD j 0).sum ≤ m * l.length := by
  induction l with
  | nil => simp
  | cons x l ih =>
    rw [List.map_cons, List.sum_cons, List.length_cons, Nat.mul_succ]
    have h1 := h x (by simp)
    have h2 := ih fun j hj => h j (by simp [hj])
    omega
theorem psum_next {s : List Nat} {l : List Nat} {k j : Nat} (h : l[k]? = some j) : ((l.take (k + 1)).map fun j => s.getD j 0).sum = ((l.take k).map fun j => s.getD j 0).sum + s.getD j 0 := by
  rw [← take_snoc _ _ _ h, List.map_append, List.sum_append]; simp
set_option maxRecDepth 100000 in
theorem heavy_any (l : List Dn) (v : Value) (hl : l.length ≤ 10000000) (hd : ∀ x ∈ l, x.d.ok) (w : World) (hx : DnS w (fpL []) v l) (hw : OK w (fpL []) [] w) :
    Fn Try.prog 7 [v] [] w (fun b : Bool => b = false → l.length ≤ 100 ∧ Light (playR (dts l)).1) (fun b => .bool b) (fun _ => []) := by
  obtain ⟨al, cl, rfl, hcl, hml⟩ := hx.rows.rd.form
  have hdt : ∀ d ∈ dts l, d.ok := fun d hq => by obtain ⟨x, hx, rfl⟩ := List.mem_map.1 hq; exact hd x hx
  have hrel := play_rel (dts l) hdt
  have hplen := playR_len (dts l)
  rw [dts_len] at hplen
  refine enterF Try.func7 rfl Try.ntmps7 rfl hw ?_
  refine WC.seq ?_
  refine WC.region ?_
  refine WL.y (Yl.assign rfl) rfl ?_ -- t2
  refine WL.nil ?_
  refine WC.seq ?_
  refine WC.seq ?_
  refine WC.region ?_
  refine WL.y (Yl.move rfl) rfl ?_ -- t11
  refine WL.y (Yl.len un22 rfl) rfl ?_ -- t12
  refine WL.y (Yl.gtr rfl rfl) rfl ?_ -- t13
  refine WL.nil ?_
  refine WC.condD rfl (fun g13 => ?_) (fun g13 => ?_)
  · refine WC.seq ?_
    refine WC.region ?_
    refine WL.y (Yl.assign rfl) rfl ?_ -- t2
    refine WL.nil ?_
    refine WC.ret ?_
    repeat (first | (with_reducible refine peelT ?_) | (with_reducible refine peelB ?_) | (with_reducible refine peelTX ?_) | (with_reducible refine peelBX ?_) | (with_reducible refine peelBN ?_) | (with_reducible refine peelBO rfl ?_))
    exact ret1 (.inr rfl) Try.results7 rfl fun w' h => ⟨true, (fun h => nomatch h), rfl, h.sub (by repeat (first | exact TakeL.nil | (apply TakeL.cons; · repeat (first | exact Take1.head | apply Take1.tail))))⟩
  · refine WC.skip ?_
    refine WC.seq ?_
    refine WC.region ?_
    refine WL.y (Yl.move rfl) rfl ?_ -- t15
    refine WL.callC (xs := [.tmp 15]) (cap := []) rfl rfl en9 (by repeat (first | exact TakeL.nil | (apply TakeL.cons; · repeat (first | exact Take1.head | apply Take1.tail)))) (fun w hw => rplay_any l _ hl hd w (hw.srcTS (A := []) hx) hw.left.here) rfl ?_ -- t16 hailer/hailerref21.Play
    rintro ⟨ps, y, m, q⟩ ⟨hps, hm⟩
    dsimp only [pyR, List.cons_append, List.nil_append] at hps hm ⊢
    refine WL.y (Yl.move rfl) rfl ?_ -- t14
    refine WL.y (Yl.extract rfl rfl) rfl ?_ -- t17
    refine WL.say (t := 17) (v' := .slice y.1 ps.length y.2) rfl (by rfl) ?_
    refine WL.y (Yl.extract rfl rfl) rfl ?_ -- t18
    refine WL.say (t := 18) (v' := .slice q.1 m.length q.2) rfl (by rfl) ?_
    refine WL.y (Yl.assign rfl) rfl ?_ -- t3
    refine WL.y (Yl.assign rfl) rfl ?_ -- t4
    refine WL.nil ?_
    refine WC.seq ?_
    have hl100 : l.length ≤ 100 := by have := g13; omega
    obtain ⟨P, hPe⟩ : ∃ P, (playR (dts l)).1 = P := ⟨_, rfl⟩
    rw [hPe] at hps hplen
    have hP := hrel.p
    rw [hPe] at hP
    have hnl : P.length = ps.length := by rw [← hps, nds_len]
    rw [hPe]
    refine WC.region ?_
    refine WL.y (Yl.move rfl) rfl ?_ -- t19
    refine WL.y (Yl.len un28 rfl) rfl ?_ -- t20
    refine WL.to (To.makeSlice un29 zb29_3 rfl rfl rfl (by omega) (by unfold maxLen; omega)) rfl ?_ -- t21
    intro b21
    rw [ints_repl]
    refine WL.view (fun w h => h.blkOwn (b := b21) (size := 1) (n := ps.length) (by repeat (first | exact Take1.head | apply Take1.tail)) (by unfold maxLen; omega) (by simp [ints])) ?_
    refine WL.y (Yl.assign rfl) rfl ?_ -- t5
    refine WL.nil ?_
    refine WC.seq ?_
    refine WC.region ?_
    refine WL.y (Yl.assign rfl) rfl ?_ -- t6
    refine WL.nil ?_
    refine WC.seq ?_
    refine WC.seq ?_
    refine WC.region ?_
    refine WL.y (Yl.move rfl) rfl ?_ -- t22
    refine WL.y (Yl.len un28 rfl) rfl ?_ -- t23
    refine WL.y (Yl.move rfl) rfl ?_ -- t24
    refine WL.nil ?_
    refine WC.block ?_
    refine WC.loop (α := HvS) (fun s => [(4, .slice q.1 m.length q.2), (5, .slice (some ⟨b21, 0, none⟩) ps.length ps.length), (6, .int .i64 ((((szs P).take s.i).sum : Nat) : Int)), (22, .slice y.1 ps.length y.2), (23, .int .i64 (ps.length : Int)), (24, .int .i64 (s.i : Int))]) (fun s => [ownR (.slice y.1 ps.length y.2) 38 3 ps.length (vcs pnV ps), bunR (pnL ps), ownR (.slice (some ⟨b21, 0, none⟩) ps.length ps.length) 3 1 ps.length (ints .i64 s.S)]) (HvI P) (fun s => ps.length - s.i) ⟨0, List.replicate ps.length 0⟩ ⟨Nat.zero_le _, by simp [hnl], (fun j h => absurd h (Nat.not_lt_zero j)), by simp, (fun j _ h => absurd h (Nat.not_lt_zero j))⟩ ⟨(by repeat (first | exact Sub.nil | refine Sub.cons rfl ?_)), _, (by repeat (first | exact TakeL.nil | (apply TakeL.cons; · repeat (first | exact Take1.head | apply Take1.tail))))⟩ ?_
    rintro ⟨i, S⟩ hI
    obtain ⟨hi, hS, hdn, hsm, hpt⟩ := id hI
    dsimp only at hi hS hdn hsm hpt ⊢
    refine WC.seq ?_
    refine WC.region ?_
    refine WL.y (Yl.lss rfl rfl) rfl ?_ -- t25
    refine WL.nil ?_
    refine WC.seq ?_
    refine WC.condD rfl (fun g25 => ?_) (fun g25 => ?_)
    · refine WC.skip ?_
      refine WC.seq ?_
      refine WC.block ?_
      refine WC.seq ?_
      have hil : i < ps.length := by have := g25; omega
      obtain ⟨z, hz⟩ : ∃ z, ps[i]? = some z := ⟨_, List.getElem?_eq_getElem hil⟩
      have hzm := List.mem_of_getElem? hz
      have hzg : P[i]? = some z.nd := by rw [← hps]; exact nds_get hz
      have hzn := hP.nd i _ hzg
      have hptl := shp_ptl hzn.s
      have hsz := szs_get hP hzg
      refine WC.region ?_
      refine WL.y (Yl.move rfl) rfl ?_ -- t26
      refine WL.y (Yl.index un28 sz38 rfl rfl (Reads.of (r := ownR (.slice y.1 ps.length y.2) 38 3 ps.length (vcs pnV ps)) RdOf.own (by repeat (first | exact Take1.head | apply Take1.tail))) rfl (by omega)) rfl ?_ -- t27
      refine WL.y (Yl.loadV vtPn pnAll rfl (Reads.of (r := ownR (.slice y.1 ps.length y.2) 38 3 ps.length (vcs pnV ps)) RdOf.own (by repeat (first | exact Take1.head | apply Take1.tail))) rfl hz) rfl ?_ -- t28
      refine WL.to (To.alloc (cs := [.int .u8 0, .int .u64 0, .slice none 0 0]) zr38 rfl) rfl ?_ -- t8
      intro b8
      refine WL.y (Yl.assign rfl) rfl ?_ -- t7
      refine WL.sto (Sto.agg sz38 rfl rfl (by repeat (first | exact Take1.head | apply Take1.tail)) z.ones rfl (by rfl) (show _ = z.cells from rfl)) (fun _ h => nomatch h) ?_ -- st 1
      refine WL.nil ?_
      refine WC.seq ?_
      refine WC.region ?_
      refine WL.y (Yl.move rfl) rfl ?_ -- t29
      refine WL.y (Yl.move rfl) rfl ?_ -- t30
      refine WL.y (Yl.index un29 sz3 rfl rfl (Reads.of (r := ownR (.slice (some ⟨b21, 0, none⟩) ps.length ps.length) 3 1 ps.length (ints .i64 S)) RdOf.own (by repeat (first | exact Take1.head | apply Take1.tail))) rfl (by omega)) rfl ?_ -- t31
      refine WL.sto (Sto.elem (j := i) (cs' := ints .i64 (S.set i 1)) sz3 rfl rfl (by repeat (first | exact Take1.head | apply Take1.tail)) rfl (by omega) (by simp [ints, List.map_set])) (fun _ h => nomatch h) ?_
      refine WL.nil ?_
      refine WC.seq ?_
      refine WC.seq ?_
      refine WC.region ?_
      refine WL.y (Yl.field fo38_2 rfl) rfl ?_ -- t32
      refine WL.y (Yl.load on29 rfl (by repeat (first | exact Take1.head | apply Take1.tail)) (by rfl)) rfl ?_ -- t33
      refine WL.y (Yl.len un29 rfl) rfl ?_ -- t34
      refine WL.y (Yl.move rfl) rfl ?_ -- t35
      refine WL.nil ?_
      refine WC.block ?_
      refine WC.loop (α := Nat) (fun k => [(4, .slice q.1 m.length q.2), (5, .slice (some ⟨b21, 0, none⟩) ps.length ps.length), (6, .int .i64 ((((szs P).take i).sum : Nat) : Int)), (7, .int .i64 (i : Int)), (8, .pointer (some ⟨b8, 0, none⟩)), (22, .slice y.1 ps.length y.2), (23, .int .i64 (ps.length : Int)), (24, .int .i64 (i : Int)), (33, pnS z), (34, .int .i64 (z.nd.pt.length : Int)), (35, .int .i64 (k : Int))]) (fun k => [ownR (.slice y.1 ps.length y.2) 38 3 ps.length (vcs pnV ps), bunR (pnL ps), blkR b8 38 z.cells, ownR (.slice (some ⟨b21, 0, none⟩) ps.length ps.length) 3 1 ps.length (ints .i64 (S.set i ((1 + ((z.nd.pt.take k).map fun j => (szs P).getD j 0).sum : Nat) : Int)))]) (fun k => k ≤ z.nd.pt.length) (fun k => z.nd.pt.length - k) 0 (Nat.zero_le _) ⟨(by repeat (first | exact Sub.nil | refine Sub.cons rfl ?_)), _, (by repeat (first | exact TakeL.nil | (apply TakeL.cons; · repeat (first | exact Take1.head | apply Take1.tail))))⟩ ?_
      intro k hk
      refine WC.seq ?_
      refine WC.region ?_
      refine WL.y (Yl.lss rfl rfl) rfl ?_ -- t36
      refine WL.nil ?_
      refine WC.seq ?_
      refine WC.condD rfl (fun g36 => ?_) (fun g36 => ?_)
      · refine WC.skip ?_
        refine WC.seq ?_
        refine WC.block ?_
        refine WC.seq ?_
        have hkl : k < z.nd.pt.length := by have := g36; omega
        obtain ⟨j, hj⟩ : ∃ j, z.nd.pt[k]? = some j := ⟨_, List.getElem?_eq_getElem hkl⟩
        have hjl := hzn.p j (List.mem_of_getElem? hj)
        have hj1 := hI.small (j := j) hjl
        have hpsum : ((z.nd.pt.take k).map fun j => (szs P).getD j 0).sum ≤ 4000 * (z.nd.pt.take k).length := psum_le fun j hj => hI.small (hzn.p j (List.mem_of_mem_take hj))
        rw [List.length_take] at hpsum
        have hnx := psum_next (s := szs P) hj
        refine WC.region ?_
        refine WL.y (Yl.index un29 sz3 rfl rfl (Reads.of (RdOf.bun (A := pnL ps) (List.mem_map.2 ⟨z, hzm, rfl⟩)) (by repeat (first | exact Take1.head | apply Take1.tail))) rfl (by omega)) rfl ?_ -- t37
        refine WL.y (Yl.loadE (j := k) on3 rfl (Reads.of (RdOf.bun (A := pnL ps) (List.mem_map.2 ⟨z, hzm, rfl⟩)) (by repeat (first | exact Take1.head | apply Take1.tail))) (iN_cell hj)) rfl ?_
        refine WL.y (Yl.assign rfl) rfl ?_ -- t10
        refine WL.nil ?_
        refine WC.drawTail 10 mixed (by kernel_rfl) ?_
        refine WH.y (Yl.move rfl) rfl ?_ -- t39
        refine WH.y (Yl.move rfl) rfl ?_ -- t40
        refine WH.y (Yl.index un29 sz3 rfl rfl (Reads.of (r := ownR (.slice (some ⟨b21, 0, none⟩) ps.length ps.length) 3 1 ps.length (ints .i64 (S.set i ((1 + ((z.nd.pt.take k).map fun j => (szs P).getD j 0).sum : Nat) : Int)))) RdOf.own (by repeat (first | exact Take1.head | apply Take1.tail))) rfl (by omega)) rfl ?_ -- t41
        refine WH.y (Yl.loadE (j := i) on3 rfl (Reads.of (r := ownR (.slice (some ⟨b21, 0, none⟩) ps.length ps.length) 3 1 ps.length (ints .i64 (S.set i ((1 + ((z.nd.pt.take k).map fun j => (szs P).getD j 0).sum : Nat) : Int)))) RdOf.own (by repeat (first | exact Take1.head | apply Take1.tail))) (intsG_at (show _ = some (((1 + ((z.nd.pt.take k).map fun j => (szs P).getD j 0).sum : Nat) : Nat) : Int) by rw [List.getElem?_set, if_pos rfl, if_pos (by omega)]))) rfl ?_
        refine WH.y (Yl.move rfl) rfl ?_ -- t43
        refine WH.y (Yl.move rfl) rfl ?_ -- t44
        refine WH.y (Yl.index un29 sz3 rfl rfl (Reads.of (r := ownR (.slice (some ⟨b21, 0, none⟩) ps.length ps.length) 3 1 ps.length (ints .i64 (S.set i ((1 + ((z.nd.pt.take k).map fun j => (szs P).getD j 0).sum : Nat) : Int)))) RdOf.own (by repeat (first | exact Take1.head | apply Take1.tail))) rfl (by omega)) rfl ?_ -- t45
        refine WH.y (Yl.loadE (j := j) on3 rfl (Reads.of (r := ownR (.slice (some ⟨b21, 0, none⟩) ps.length ps.length) 3 1 ps.length (ints .i64 (S.set i ((1 + ((z.nd.pt.take k).map fun j => (szs P).getD j 0).sum : Nat) : Int)))) RdOf.own (by repeat (first | exact Take1.head | apply Take1.tail))) (intsG_at (show _ = some (((szs P).getD j 0 : Nat) : Int) by rw [List.getElem?_set, if_neg (by omega)]; exact hdn j hjl))) rfl ?_
        refine WH.y (Yl.add rfl rfl (IntWalk.i64_in _ (by omega))) rfl ?_ -- t47
        refine WH.y (Yl.index un29 sz3 rfl rfl (Reads.of (r := ownR (.slice (some ⟨b21, 0, none⟩) ps.length ps.length) 3 1 ps.length (ints .i64 (S.set i ((1 + ((z.nd.pt.take k).map fun j => (szs P).getD j 0).sum : Nat) : Int)))) RdOf.own (by repeat (first | exact Take1.head | apply Take1.tail))) rfl (by omega)) rfl ?_ -- t48
        refine WH.nil ?_
        refine WP.sto (Sto.elem (j := i) (cs' := ints .i64 (S.set i ((1 + ((z.nd.pt.take (k + 1)).map fun j => (szs P).getD j 0).sum : Nat) : Int))) sz3 rfl rfl (by repeat (first | exact Take1.head | apply Take1.tail)) rfl (by omega) (by
          rw [hnx]
          simp only [ints, List.map_set, List.set_set]
          refine congrArg (fun x => (List.map (Value.int .i64) S).set i (Value.int .i64 x)) ?_
          omega)) (fun _ h => nomatch h) ?_
        refine WP.nil ?_
        refine WC.region ?_
        refine WL.y (Yl.add rfl rfl (IntWalk.i64_in _ (by omega))) rfl ?_ -- t49
        refine WL.y (Yl.move rfl) rfl ?_ -- t35
        refine WL.nil ?_
        exact ⟨rfl, k + 1, by omega, by omega, (by repeat (first | exact Sub.nil | refine Sub.cons rfl ?_)), _, (by repeat (first | exact TakeL.nil | (apply TakeL.cons; · repeat (first | exact Take1.head | apply Take1.tail))))⟩
      · refine WC.exit ?_
        refine WC.seq ?_
        have hkk : k = z.nd.pt.length := by have := g36; omega
        subst hkk
        rw [List.take_length] at *
        have hg : (szs P).getD i 0 = 1 + (z.nd.pt.map fun j => (szs P).getD j 0).sum := by simp [List.getD, hsz]
        have hsn := sum_take_succ hsz
        have hpsum : (z.nd.pt.map fun j => (szs P).getD j 0).sum ≤ 4000 * z.nd.pt.length := psum_le fun j hj => hI.small (hzn.p j hj)
        refine WC.region ?_
        refine WL.y (Yl.move rfl) rfl ?_ -- t50
        refine WL.y (Yl.move rfl) rfl ?_ -- t51
        refine WL.y (Yl.move rfl) rfl ?_ -- t52
        refine WL.y (Yl.index un29 sz3 rfl rfl (Reads.of (r := ownR (.slice (some ⟨b21, 0, none⟩) ps.length ps.length) 3 1 ps.length (ints .i64 (S.set i ((1 + (z.nd.pt.map fun j => (szs P).getD j 0).sum : Nat) : Int)))) RdOf.own (by repeat (first | exact Take1.head | apply Take1.tail))) rfl (by omega)) rfl ?_ -- t53
        refine WL.y (Yl.loadE (j := i) on3 rfl (Reads.of (r := ownR (.slice (some ⟨b21, 0, none⟩) ps.length ps.length) 3 1 ps.length (ints .i64 (S.set i ((1 + (z.nd.pt.map fun j => (szs P).getD j 0).sum : Nat) : Int)))) RdOf.own (by repeat (first | exact Take1.head | apply Take1.tail))) (intsG_at (show _ = some ((1 + (z.nd.pt.map fun j => (szs P).getD j 0).sum : Nat) : Int) by rw [List.getElem?_set, if_pos rfl, if_pos (by omega)]))) rfl ?_
        refine WL.y (Yl.add rfl rfl (IntWalk.i64_in _ (by omega))) rfl ?_ -- t55
        refine WL.say (t := 55) (v' := .int .i64 ((((szs P).take (i + 1)).sum : Nat) : Int)) rfl (by (refine congrArg (Value.int .i64) ?_; rw [hsn]; push_cast; omega)) ?_
        refine WL.y (Yl.assign rfl) rfl ?_ -- t6
        refine WL.nil ?_
        refine WC.seq ?_
        refine WC.region ?_
        refine WL.y (Yl.move rfl) rfl ?_ -- t56
        refine WL.y (Yl.gtr rfl rfl) rfl ?_ -- t57
        refine WL.y (Yl.move rfl) rfl ?_ -- t58
        refine WL.both (t := 58) rfl (fun g58 => ?_) (fun g58 => ?_)
        · refine WL.off rfl rfl rfl rfl ?_ -- t59
          refine WL.off rfl rfl rfl rfl ?_ -- t60
          refine WL.off rfl rfl rfl rfl ?_ -- t61
          refine WL.off rfl rfl rfl rfl ?_ -- t62
          refine WL.y (Yl.pickT rfl rfl) rfl ?_ -- t63
          refine WL.nil ?_
          refine WC.condT rfl (by first | rfl | (simp; done) | (simp; omega)) ?_
          refine WC.seq ?_
          refine WC.region ?_
          refine WL.y (Yl.assign rfl) rfl ?_ -- t2
          refine WL.nil ?_
          refine WC.ret ?_
          repeat (first | (with_reducible refine peelT ?_) | (with_reducible refine peelB ?_) | (with_reducible refine peelTX ?_) | (with_reducible refine peelBX ?_) | (with_reducible refine peelBN ?_) | (with_reducible refine peelBO rfl ?_))
          exact ret1 (.inr rfl) Try.results7 rfl fun w' h => ⟨true, (fun h => nomatch h), rfl, h.sub (by repeat (first | exact TakeL.nil | (apply TakeL.cons; · repeat (first | exact Take1.head | apply Take1.tail))))⟩
        · refine WL.on rfl rfl ?_
          refine WL.y (Yl.field fo38_2 rfl) rfl ?_ -- t59
          refine WL.on rfl rfl ?_
          refine WL.y (Yl.load on29 rfl (by repeat (first | exact Take1.head | apply Take1.tail)) (by rfl)) rfl ?_ -- t60
          refine WL.on rfl rfl ?_
          refine WL.y (Yl.len un29 rfl) rfl ?_ -- t61
          refine WL.on rfl rfl ?_
          refine WL.y (Yl.gtr rfl rfl) rfl ?_ -- t62
          refine WL.y (Yl.pickF rfl rfl) rfl ?_ -- t63
          refine WL.nil ?_
          refine WC.condD rfl (fun g63 => ?_) (fun g63 => ?_)
          · refine WC.seq ?_
            refine WC.region ?_
            refine WL.y (Yl.assign rfl) rfl ?_ -- t2
            refine WL.nil ?_
            refine WC.ret ?_
            repeat (first | (with_reducible refine peelT ?_) | (with_reducible refine peelB ?_) | (with_reducible refine peelTX ?_) | (with_reducible refine peelBX ?_) | (with_reducible refine peelBN ?_) | (with_reducible refine peelBO rfl ?_))
            exact ret1 (.inr rfl) Try.results7 rfl fun w' h => ⟨true, (fun h => nomatch h), rfl, h.sub (by repeat (first | exact TakeL.nil | (apply TakeL.cons; · repeat (first | exact Take1.head | apply Take1.tail))))⟩
          · refine WC.skip ?_
            refine WC.region ?_
            refine WL.y (Yl.add rfl rfl (IntWalk.i64_in _ (by omega))) rfl ?_ -- t64
            refine WL.y (Yl.move rfl) rfl ?_ -- t24
            refine WL.nil ?_
            refine ⟨rfl, ⟨i + 1, S.set i ((1 + (z.nd.pt.map fun j => (szs P).getD j 0).sum : Nat) : Int)⟩, ⟨by dsimp only; omega, by simp [hS], fun j hj => ?_, ?_, fun j nd hj hn => ?_⟩, by dsimp only; omega, (by repeat (first | exact Sub.nil | refine Sub.cons rfl ?_)), _, (by repeat (first | exact TakeL.nil | (apply TakeL.cons; · repeat (first | exact Take1.head | apply Take1.tail))))⟩
            · dsimp only at hj ⊢
              by_cases e : i = j
              · subst e
                rw [List.getElem?_set, if_pos rfl, if_pos (by omega), hg]
              · rw [List.getElem?_set, if_neg e]
                exact hdn j (by omega)
            · dsimp only
              have := of_decide_eq_false g58
              omega
            · dsimp only at hj
              by_cases e : i = j
              · subst e
                rw [hzg] at hn
                cases hn
                have := g63
                omega
              · exact hpt j nd (by omega) hn
    · refine WC.exit ?_
      refine WC.seq ?_
      refine WC.region ?_
      refine WL.y (Yl.move rfl) rfl ?_ -- t65
      refine WL.y (Yl.len un29 rfl) rfl ?_ -- t66
      refine WL.y (Yl.gtr rfl rfl) rfl ?_ -- t67
      refine WL.y (Yl.assign rfl) rfl ?_ -- t2
      refine WL.nil ?_
      refine WC.ret ?_
      repeat (first | (with_reducible refine peelT ?_) | (with_reducible refine peelB ?_) | (with_reducible refine peelTX ?_) | (with_reducible refine peelBX ?_) | (with_reducible refine peelBN ?_) | (with_reducible refine peelBO rfl ?_))
      have hil : i = P.length := by have := g25; omega
      have hlight : Light P := ⟨by rw [hil, ← szs_len, List.take_length] at hsm; exact hsm, fun nd hn => by
        obtain ⟨j, hj⟩ := List.mem_iff_getElem?.1 hn
        exact hpt j nd (by rw [hil]; exact (List.getElem?_eq_some_iff.1 hj).1) hj⟩
      exact ret1 (.inr rfl) Try.results7 rfl fun w' h => ⟨_, fun _ => ⟨hl100, hlight⟩, rfl, h.sub (by repeat (first | exact TakeL.nil | (apply TakeL.cons; · repeat (first | exact Take1.head | apply Take1.tail))))⟩
end Go.Proofs.Ytifhkjcimhhaiaa
