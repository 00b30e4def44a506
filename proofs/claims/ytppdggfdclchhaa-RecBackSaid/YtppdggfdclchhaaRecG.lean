/- RecPuts: the walk. -/
import Derived.Test.YtppdggfdclchhaaRecE
namespace Go.Proofs.Ytppdggfdclchhaa
open Go Go.RowKit

def putB (r : Rc) : List Int := if mayB r then recB r else []
def errP (r : Rc) : Int := if mayB r then 0 else 2
theorem putB_yes {r : Rc} (h : mayB r = true) : putB r = recB r := by simp [putB, h]
theorem putB_no {r : Rc} (h : mayB r = false) : putB r = [] := by simp [putB, h]
theorem errP_yes {r : Rc} (h : mayB r = true) : errP r = 0 := by simp [errP, h]
theorem errP_no {r : Rc} (h : mayB r = false) : errP r = 2 := by simp [errP, h]

theorem bytes_fits : ∀ {n : Nat} {cs : List Value}, Fits1 (List.replicate n (some .u8)) cs → ∃ ys : List Int, cs = ints .u8 ys ∧ ys.length = n ∧ Bytes ys
  | 0, [], _ => ⟨[], rfl, rfl, fun x hx => nomatch hx⟩
  | 0, _ :: _, h => h.elim
  | n + 1, [], h => h.elim
  | n + 1, c :: cs, h => by
    obtain ⟨ys, rfl, h2, h3⟩ := bytes_fits (n := n) (cs := cs) h.2
    match c, h.1 with
    | .int q y, h1 =>
      obtain ⟨rfl, hw⟩ := h1
      refine ⟨y :: ys, rfl, by simp [h2], fun z hz => ?_⟩
      rcases List.mem_cons.1 hz with rfl | hz
      · exact wf_u8 hw
      · exact h3 z hz
theorem wf_u64' {n : Int} (h : (Lit.int .u64 n).wf = true) : U64 n := wf_u64 h
theorem Rc.of_fits {cs : List Value} (h : Fits1 rcLeaf cs) : ∃ r : Rc, r.ok ∧ cs = r.cells := by
  obtain ⟨h1, h2⟩ := Fits1.app (ks := List.replicate 16 (some .u8)) h
  rw [List.length_replicate] at h1 h2
  obtain ⟨id, e1, hl, hb⟩ := bytes_fits h1
  obtain ⟨ds, e2⟩ : ∃ ds, cs.drop 16 = ds := ⟨_, rfl⟩
  rw [e2] at h2
  have hcs : cs = ints .u8 id ++ ds := by rw [← e1, ← e2, List.take_append_drop]
  match ds, h2 with
  | [.int q1 p, .bool o, .int q2 c, .int q3 b, .int q4 a, .int q5 e], h2 =>
    obtain ⟨⟨rfl, w1⟩, _, ⟨rfl, w2⟩, ⟨rfl, w3⟩, ⟨rfl, w4⟩, ⟨rfl, w5⟩, _⟩ := h2
    exact ⟨⟨id, p, o, c, b, a, e⟩, ⟨hl, hb, wf_u8 w1, wf_u8 w2, wf_u64 w3, wf_u64 w4, wf_u64 w5⟩, hcs⟩

theorem Reads.len {c : Cx} {H : List Res} {v : Value} {n m : Nat} {cs : List Value} (h : Reads c H v 1 n cs) (e : n = m) : Reads c H v 1 m cs := e ▸ h

theorem rput_any (r : Rc) (hr : r.ok) (w : World) (hw : OK w (fpL []) [] w) :
    Fn Try.prog 7 [.agg r.cells.toArray] [] w (fun y : Option Addr × Nat => (putB r).length ≤ y.2) (fun y => .tuple #[.slice y.1 (putB r).length y.2, .int .i64 (errP r)]) (fun y => [ownR (.slice y.1 (putB r).length y.2) 5 1 (putB r).length (ints .u8 (putB r))]) := by
  cases hm : mayB r with
  | false =>
    rw [putB_no hm, errP_no hm]
    refine (rput_no r hr hm w hw).mono ?_
    rintro e w' ⟨_, _, h1, h2⟩
    exact ⟨(none, 0), Nat.le_refl _, h1, h2.addNil _ _⟩
  | true =>
    rw [putB_yes hm, errP_yes hm, recB_len hr.len]
    exact rput_ok r hr hm w hw

theorem recPuts_any (r : Rc) (hr : r.ok) (bs : List Int) (v : Value) (hB : Bytes bs) (w : World) (hw : OK w (fpL [rdR v 1 bs.length (ints .u8 bs)]) [rdR v 1 bs.length (ints .u8 bs)] w) :
    Fn Try.prog 4 [.agg r.cells.toArray, v] [rdR v 1 bs.length (ints .u8 bs)] w (fun _ : Unit => True) (fun _ => .bool true) (fun _ => []) := by
  obtain ⟨al, cl, rfl, hcl, hml⟩ := (hw.get .head).form
  have hlen := hr.len
  have htok := recT_ok hB
  refine enterF Try.func4 rfl Try.ntmps4 rfl hw ?_
  refine WC.seq ?_
  refine WC.region ?_
  refine WL.to (To.box (cs := r.cells) rfl rfl) rfl ?_ -- t2
  intro b2
  refine WL.y (Yl.assign rfl) rfl ?_ -- t4
  refine WL.nil ?_
  refine WC.seq ?_
  refine WC.seq ?_
  refine WC.region ?_
  refine WL.y (Yl.move rfl) rfl ?_ -- t12
  refine WL.y (Yl.len un28 rfl) rfl ?_ -- t13
  refine WL.y (Yl.gtr rfl rfl) rfl ?_ -- t14
  refine WL.nil ?_
  refine WC.condD rfl (fun g14 => ?_) (fun g14 => ?_)
  · refine WC.seq ?_
    refine WC.region ?_
    refine WL.callC (xs := []) (cap := []) rfl rfl en9 (by repeat (first | exact TakeL.nil | (apply TakeL.cons; · repeat (first | exact Take1.head | apply Take1.tail)))) (fun w hw => works_any w hw.left.here) rfl ?_ -- t15 hailer/hailerlaw11.works
    rintro ⟨⟩ -
    refine WL.y (Yl.assign rfl) rfl ?_ -- t4
    refine WL.nil ?_
    refine WC.ret ?_
    repeat (first | (with_reducible refine peelT ?_) | (with_reducible refine peelB ?_) | (with_reducible refine peelTX ?_) | (with_reducible refine peelBX ?_) | (with_reducible refine peelBN ?_) | (with_reducible refine peelBO rfl ?_))
    exact ret1 (.inr rfl) Try.results4 rfl fun w' h => ⟨(), trivial, rfl, h.sub (by repeat (first | exact TakeL.nil | (apply TakeL.cons; · repeat (first | exact Take1.head | apply Take1.tail))))⟩
  · refine WC.skip ?_
    refine WC.seq ?_
    refine WC.region ?_
    refine WL.y (Yl.loadN ag26 rfl (by repeat (first | exact Take1.head | apply Take1.tail)) (leB (by rw [Rc.cells_len hlen]; omega)) (Rc.call hlen)) rfl ?_ -- t16
    refine WL.callC (xs := [.tmp 16]) (cap := []) rfl rfl en10 (by repeat (first | exact TakeL.nil | (apply TakeL.cons; · repeat (first | exact Take1.head | apply Take1.tail)))) (fun w hw => rmay_any r hr w hw.left.here) rfl ?_ -- t17 hailer/hailerref11.May
    rintro ⟨⟩ -
    refine WL.y (Yl.assign rfl) rfl ?_ -- t5
    refine WL.nil ?_
    refine WC.seq ?_
    refine WC.region ?_
    refine WL.y (Yl.loadN ag26 rfl (by repeat (first | exact Take1.head | apply Take1.tail)) (leB (by rw [Rc.cells_len hlen]; omega)) (Rc.call hlen)) rfl ?_ -- t19
    refine WL.callC (xs := [.tmp 19]) (cap := []) rfl rfl en7 (by repeat (first | exact TakeL.nil | (apply TakeL.cons; · repeat (first | exact Take1.head | apply Take1.tail)))) (fun w hw => rput_any r hr w hw.left.here) rfl ?_ -- t20 hailer/rec.Put
    rintro ⟨a20, c20⟩ hc20
    dsimp only at hc20 ⊢
    refine WL.y (Yl.move rfl) rfl ?_ -- t18
    refine WL.y (Yl.extract rfl rfl) rfl ?_ -- t21
    refine WL.y (Yl.extract rfl rfl) rfl ?_ -- t22
    refine WL.y (Yl.assign rfl) rfl ?_ -- t6
    refine WL.y (Yl.assign rfl) rfl ?_ -- t7
    refine WL.nil ?_
    refine WC.seq ?_
    refine WC.region ?_
    refine WL.y (Yl.move rfl) rfl ?_ -- t24
    refine WL.callC (xs := [.tmp 24]) (cap := []) rfl rfl en8 (by repeat (first | exact TakeL.nil | (apply TakeL.cons; · repeat (first | exact Take1.head | apply Take1.tail)))) (fun w hw => rtakeP_any bs _ hB (by omega) w (hw.src (A := []) RdOf.rd' (by repeat (first | exact Take1.head | apply Take1.tail))) hw.left.here) rfl ?_ -- t25 hailer/rec.Take
    rintro ⟨⟩ -
    refine WL.y (Yl.move rfl) rfl ?_ -- t23
    refine WL.y (Yl.extract rfl rfl) rfl ?_ -- t26
    refine WL.y (Yl.extract rfl rfl) rfl ?_ -- t27
    refine WL.to (To.alloc (cs := Rc.zero.cells) zr26 rfl) rfl ?_ -- t8
    intro b8
    refine WL.sto (Sto.agg sz26 rfl rfl (by repeat (first | exact Take1.head | apply Take1.tail)) (Rc.ones _) (Rc.cells_len htok.len) (by rfl) (Rc.all (r := Rc.zero) rfl (recT bs).1.cells (Rc.cells_len htok.len))) (fun _ h => nomatch h) ?_ -- st 1
    refine WL.y (Yl.assign rfl) rfl ?_ -- t9
    refine WL.nil ?_
    refine WC.seq ?_
    refine WC.region ?_
    refine WL.y (Yl.move rfl) rfl ?_ -- t29
    refine WL.callC (xs := [.tmp 29]) (cap := []) rfl rfl en11 (by repeat (first | exact TakeL.nil | (apply TakeL.cons; · repeat (first | exact Take1.head | apply Take1.tail)))) (fun w hw => rtake_any bs _ hB (by omega) w (hw.src (A := []) RdOf.rd' (by repeat (first | exact Take1.head | apply Take1.tail))) hw.left.here) rfl ?_ -- t30 hailer/hailerref11.Take
    rintro ⟨⟩ -
    refine WL.y (Yl.move rfl) rfl ?_ -- t28
    refine WL.y (Yl.extract rfl rfl) rfl ?_ -- t31
    refine WL.y (Yl.extract rfl rfl) rfl ?_ -- t32
    refine WL.to (To.alloc (cs := Rc.zero.cells) zr26 rfl) rfl ?_ -- t10
    intro b10
    refine WL.sto (Sto.agg sz26 rfl rfl (by repeat (first | exact Take1.head | apply Take1.tail)) (Rc.ones _) (Rc.cells_len htok.len) (by rfl) (Rc.all (r := Rc.zero) rfl (recT bs).1.cells (Rc.cells_len htok.len))) (fun _ h => nomatch h) ?_ -- st 2
    refine WL.y (Yl.assign rfl) rfl ?_ -- t11
    refine WL.nil ?_
    refine WC.seq ?_
    refine WC.midK [(55, .bool false)] [blkR b2 26 r.cells, ownR (.slice a20 (putB r).length c20) 5 1 (putB r).length (ints .u8 (putB r)), rdR (.slice al bs.length cl) 1 bs.length (ints .u8 bs)] ?_ ?_
    · refine WC.region ?_
      refine WL.y (Yl.loadN ag26 rfl (by repeat (first | exact Take1.head | apply Take1.tail)) (leB (by rw [Rc.cells_len hlen]; omega)) (Rc.call hlen)) rfl ?_ -- t33
      refine WL.callC (xs := [.tmp 33]) (cap := []) rfl rfl en12 (by repeat (first | exact TakeL.nil | (apply TakeL.cons; · repeat (first | exact Take1.head | apply Take1.tail)))) (fun w hw => may_any r hr w hw.left.here) rfl ?_ -- t34 hailer/rec.May
      rintro ⟨⟩ -
      refine WL.y (Yl.move rfl) rfl ?_ -- t35
      refine WL.y (Yl.bNe un4 rfl rfl) rfl ?_ -- t36
      refine WL.know (t := 36) (b' := false) rfl (by simp) ?_
      refine WL.y (Yl.move rfl) rfl ?_ -- t37
      refine WL.on rfl rfl ?_
      refine WL.y (Yl.loadN ag26 rfl (by repeat (first | exact Take1.head | apply Take1.tail)) (leB (by rw [Rc.cells_len htok.len]; omega)) (Rc.call htok.len)) rfl ?_ -- t38
      refine WL.on rfl rfl ?_
      refine WL.y (Yl.loadN ag26 rfl (by repeat (first | exact Take1.head | apply Take1.tail)) (leB (by rw [Rc.cells_len htok.len]; omega)) (Rc.call htok.len)) rfl ?_ -- t39
      refine WL.on rfl rfl ?_
      refine WL.y (Yl.neA flRec rfl rfl htok.fits htok.fits) rfl ?_
      refine WL.know (t := 40) (b' := false) rfl (by simp [eqV_self]) ?_
      refine WL.y (Yl.pickF rfl rfl) rfl ?_ -- t41
      refine WL.y (Yl.move rfl) rfl ?_ -- t42
      refine WL.on rfl rfl ?_
      refine WL.y (Yl.move rfl) rfl ?_ -- t43
      refine WL.on rfl rfl ?_
      refine WL.y (Yl.eql rfl rfl) rfl ?_ -- t44
      refine WL.on rfl rfl ?_
      refine WL.y (Yl.move rfl) rfl ?_ -- t45
      refine WL.on rfl rfl ?_
      refine WL.y (Yl.bNe un4 rfl rfl) rfl ?_ -- t46
      refine WL.know (t := 46) (b' := false) rfl (by cases (recT bs).2 <;> simp [errT]) ?_
      refine WL.y (Yl.pickF rfl rfl) rfl ?_ -- t47
      refine WL.y (Yl.move rfl) rfl ?_ -- t48
      refine WL.on rfl rfl ?_
      refine WL.y (Yl.move rfl) rfl ?_ -- t49
      refine WL.on rfl rfl ?_
      refine WL.y (Yl.not rfl) rfl ?_ -- t50
      refine WL.on rfl rfl ?_
      refine WL.y (Yl.move rfl) rfl ?_ -- t51
      refine WL.both (t := 51) rfl (fun g51 => ?_) (fun g51 => ?_)
      · refine WL.on rfl rfl ?_
        refine WL.y (Yl.move rfl) rfl ?_ -- t52
        refine WL.on rfl rfl ?_
        refine WL.y (Yl.neq rfl rfl) rfl ?_ -- t53
        refine WL.know (t := 53) (b' := false) rfl (by have := notT g51; simp [this, errT]) ?_
        refine WL.on rfl rfl ?_
        refine WL.y (Yl.pickT rfl rfl) rfl ?_ -- t54
        refine WL.y (Yl.pickF rfl rfl) rfl ?_ -- t55
        refine WL.nil ?_
        exact ⟨rfl, (by repeat (first | exact Sub.nil | refine Sub.cons rfl ?_)), (by repeat (first | exact Sub.nil | refine Sub.cons rfl ?_)), _, (by repeat (first | exact TakeL.nil | (apply TakeL.cons; · repeat (first | exact Take1.head | apply Take1.tail))))⟩
      · refine WL.off rfl rfl rfl rfl ?_ -- t52
        refine WL.off rfl rfl rfl rfl ?_ -- t53
        refine WL.on rfl rfl ?_
        refine WL.y (Yl.pickF rfl rfl) rfl ?_ -- t54
        refine WL.y (Yl.pickF rfl rfl) rfl ?_ -- t55
        refine WL.nil ?_
        exact ⟨rfl, (by repeat (first | exact Sub.nil | refine Sub.cons rfl ?_)), (by repeat (first | exact Sub.nil | refine Sub.cons rfl ?_)), _, (by repeat (first | exact TakeL.nil | (apply TakeL.cons; · repeat (first | exact Take1.head | apply Take1.tail))))⟩
    · refine WC.condF rfl rfl ?_
      refine WC.skip ?_
      refine WC.seq ?_
      refine WC.seq ?_
      refine WC.region ?_
      refine WL.y (Yl.move rfl) rfl ?_ -- t56
      refine WL.y (Yl.not rfl) rfl ?_ -- t57
      refine WL.nil ?_
      refine WC.cond rfl (fun g57 => ?_) (fun g57 => ?_)
      · refine WC.seq ?_
        refine WC.region ?_
        refine WL.y (Yl.move rfl) rfl ?_ -- t58
        refine WL.y (Yl.len un28 rfl) rfl ?_ -- t59
        refine WL.y (Yl.eql rfl rfl) rfl ?_ -- t60
        refine WL.know (t := 60) (b' := true) rfl (by simp [putB_no (notT g57)]) ?_
        refine WL.y (Yl.move rfl) rfl ?_ -- t61
        refine WL.on rfl rfl ?_
        refine WL.y (Yl.move rfl) rfl ?_ -- t62
        refine WL.on rfl rfl ?_
        refine WL.y (Yl.eql rfl rfl) rfl ?_ -- t63
        refine WL.know (t := 63) (b' := true) rfl (by simp [errP_no (notT g57)]) ?_
        refine WL.y (Yl.pickT rfl rfl) rfl ?_ -- t64
        refine WL.y (Yl.move rfl) rfl ?_ -- t65
        refine WL.on rfl rfl ?_
        refine WL.callC (xs := []) (cap := []) rfl rfl en9 (by repeat (first | exact TakeL.nil | (apply TakeL.cons; · repeat (first | exact Take1.head | apply Take1.tail)))) (fun w hw => works_any w hw.left.here) rfl ?_ -- t66 hailer/hailerlaw11.works
        rintro ⟨⟩ -
        refine WL.know (t := 66) (b' := true) rfl (by first | rfl | (simp; done) | (simp; omega)) ?_
        refine WL.y (Yl.pickT rfl rfl) rfl ?_ -- t67
        refine WL.y (Yl.assign rfl) rfl ?_ -- t4
        refine WL.nil ?_
        refine WC.ret ?_
        repeat (first | (with_reducible refine peelT ?_) | (with_reducible refine peelB ?_) | (with_reducible refine peelTX ?_) | (with_reducible refine peelBX ?_) | (with_reducible refine peelBN ?_) | (with_reducible refine peelBO rfl ?_))
        exact ret1 (.inr rfl) Try.results4 rfl fun w' h => ⟨(), trivial, rfl, h.sub (by repeat (first | exact TakeL.nil | (apply TakeL.cons; · repeat (first | exact Take1.head | apply Take1.tail))))⟩
      · refine WC.skip ?_
        refine WC.seq ?_
        refine WC.drawAny (Hs := [blkR b2 26 r.cells, ownR (.slice a20 (putB r).length c20) 5 1 (putB r).length (ints .u8 (putB r))]) mixed (by kernel_rfl) ⟨_, (by repeat (first | exact TakeL.nil | (apply TakeL.cons; · repeat (first | exact Take1.head | apply Take1.tail))))⟩ ?_
        refine WD.take 0 rfl (by kernel_rfl) (by kernel_rfl) (by kernel_rfl) rfl rfl (Yl.move rfl) rfl ?_ -- t68
        refine WD.take 1 rfl (by kernel_rfl) (by kernel_rfl) (by kernel_rfl) rfl rfl (Yl.toStr un28 un5 un9 rfl (Reads.of RdOf.own (by repeat (first | exact Take1.head | apply Take1.tail)))) rfl ?_ -- t69
        refine WD.take 2 rfl (by kernel_rfl) (by kernel_rfl) (by kernel_rfl) rfl rfl (Yl.loadN ag26 rfl (by repeat (first | exact Take1.head | apply Take1.tail)) (leB (by rw [Rc.cells_len hlen]; omega)) (Rc.call hlen)) rfl ?_ -- t70
        refine WD.one 3 (by kernel_rfl) ?_
        refine WO.callC (xs := [.tmp 70]) (cap := []) rfl .no rfl rfl en13 (by repeat (first | exact TakeL.nil | (apply TakeL.cons; · repeat (first | exact Take1.head | apply Take1.tail)))) (fun w hw => rbytes_any r hr w hw.left.here) rfl (fun _ => ⟨_, (by repeat (first | exact TakeL.nil | (apply TakeL.cons; · repeat (first | exact Take1.head | apply Take1.tail))))⟩) ?_ -- t71 hailer/hailerref11.Bytes
        rintro ⟨a71, c71⟩ -
        refine WD.one 4 (by kernel_rfl) ?_
        refine WO.y rfl rfl .no (Yl.toStr un28 un5 un9 rfl ((Reads.of RdOf.own (by repeat (first | exact Take1.head | apply Take1.tail))).len (recB_len hlen).symm)) rfl ?_ -- t72
        refine WD.take 5 rfl (by kernel_rfl) (by kernel_rfl) (by kernel_rfl) rfl rfl (Yl.sEq rfl rfl) rfl ?_ -- t73
        refine WD.know (t := 73) (b' := true) rfl (by simp [putB_yes (notF g57)]) ?_
        refine WD.take 6 rfl (by kernel_rfl) (by kernel_rfl) (by kernel_rfl) rfl rfl (Yl.move rfl) rfl ?_ -- t74
        refine WD.takeOn 7 rfl (by kernel_rfl) (by kernel_rfl) (by kernel_rfl) rfl rfl rfl rfl (Yl.move rfl) rfl ?_ -- t75
        refine WD.takeOn 8 rfl (by kernel_rfl) (by kernel_rfl) (by kernel_rfl) rfl rfl rfl rfl (Yl.eql rfl rfl) rfl ?_ -- t76
        refine WD.know (t := 76) (b' := true) rfl (by simp [errP_yes (notF g57)]) ?_
        refine WD.take 9 rfl (by kernel_rfl) (by kernel_rfl) (by kernel_rfl) rfl rfl (Yl.pickT rfl rfl) rfl ?_ -- t77
        refine WD.take 10 rfl (by kernel_rfl) (by kernel_rfl) (by kernel_rfl) rfl rfl (Yl.move rfl) rfl ?_ -- t78
        refine WD.one 11 (by kernel_rfl) ?_
        refine WO.callC (xs := []) (cap := []) rfl (.on rfl rfl) rfl rfl en9 (by repeat (first | exact TakeL.nil | (apply TakeL.cons; · repeat (first | exact Take1.head | apply Take1.tail)))) (fun w hw => works_any w hw.left.here) rfl (fun _ => ⟨_, (by repeat (first | exact TakeL.nil | (apply TakeL.cons; · repeat (first | exact Take1.head | apply Take1.tail))))⟩) ?_ -- t79 hailer/hailerlaw11.works
        rintro ⟨⟩ -
        refine WD.know (t := 79) (b' := true) rfl (by first | rfl | (simp; done) | (simp; omega)) ?_
        refine WD.take 12 rfl (by kernel_rfl) (by kernel_rfl) (by kernel_rfl) rfl rfl (Yl.pickT rfl rfl) rfl ?_ -- t80
        refine WD.take 13 rfl (by kernel_rfl) (by kernel_rfl) (by kernel_rfl) rfl rfl (Yl.assign rfl) rfl ?_ -- t4
        refine WD.done (by kernel_rfl) ?_
        refine WC.ret ?_
        repeat (first | (with_reducible refine peelT ?_) | (with_reducible refine peelB ?_) | (with_reducible refine peelTX ?_) | (with_reducible refine peelBX ?_) | (with_reducible refine peelBN ?_) | (with_reducible refine peelBO rfl ?_))
        exact ret1 (.inr rfl) Try.results4 rfl fun w' h => ⟨(), trivial, rfl, h.sub (by repeat (first | exact TakeL.nil | (apply TakeL.cons; · repeat (first | exact Take1.head | apply Take1.tail))))⟩
end Go.Proofs.Ytppdggfdclchhaa
