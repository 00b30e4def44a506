/- Policies: Tidy; what is idle, collected by the statements: the walks. -/
import Derived.Test.YtnlibngncicobaaPolH
namespace Go.Proofs.Ytnlibngncicobaa
open Go Go.RowKit
theorem take_next {xs ys : List Int} {j : Nat} {x y : Int} (h : xs.take j = ys.take j) (hx : xs[j]? = some x) (hy : ys[j]? = some y) : xs.take (j + 1) = ys.take (j + 1) ↔ x = y := by
  rw [← take_snoc _ _ _ hx, ← take_snoc _ _ _ hy, h]
  simp
theorem equalI_any (v1 v2 : Value) (xs ys : List Int) (hl : xs.length ≤ 1099511627776) (w : World) (hx : RdS w (fpL []) v1 1 xs.length (ints .i64 xs)) (hy : RdS w (fpL []) v2 1 ys.length (ints .i64 ys)) (hw : OK w (fpL []) [] w) :
    Fn Try.prog 20 [v1, v2] [] w (fun _ : Unit => True) (fun _ => .bool (decide (xs = ys))) (fun _ => []) := by
  obtain ⟨al, cl, rfl, hcl, hml⟩ := hx.rd.form
  obtain ⟨bl, dl, rfl, hdl, hml2⟩ := hy.rd.form
  refine enterF Try.func20 rfl Try.ntmps20 rfl hw ?_
  refine WC.seq ?_
  refine WC.region ?_
  refine WL.y (Yl.assign rfl) rfl ?_
  refine WL.nil ?_
  refine WC.seq ?_
  refine WC.seq ?_
  refine WC.region ?_
  refine WL.y (Yl.move rfl) rfl ?_
  refine WL.y (Yl.len un49 rfl) rfl ?_
  refine WL.y (Yl.move rfl) rfl ?_
  refine WL.y (Yl.len un49 rfl) rfl ?_
  refine WL.y (Yl.neq rfl rfl) rfl ?_
  refine WL.nil ?_
  refine WC.condD rfl (fun g10 => ?_) (fun g10 => ?_)
  · refine WC.seq ?_
    refine WC.region ?_
    refine WL.y (Yl.assign rfl) rfl ?_
    refine WL.nil ?_
    refine WC.ret ?_
    repeat (first | (with_reducible refine peelT ?_) | (with_reducible refine peelB ?_) | (with_reducible refine peelTX ?_) | (with_reducible refine peelBX ?_) | (with_reducible refine peelBN ?_) | (with_reducible refine peelBO rfl ?_))
    have hne : ¬ xs = ys := fun e => by
      have := g10
      rw [e] at this
      exact this rfl
    exact ret1 (.inr rfl) Try.results20 rfl fun w' h => ⟨(), trivial, by rw [decide_eq_false hne], h.sub (by repeat (first | exact TakeL.nil | (apply TakeL.cons; · repeat (first | exact Take1.head | apply Take1.tail))))⟩
  · refine WC.skip ?_
    refine WC.seq ?_
    refine WC.seq ?_
    have hlen : xs.length = ys.length := by have := g10; omega
    refine WC.region ?_
    refine WL.y (Yl.move rfl) rfl ?_
    refine WL.y (Yl.len un49 rfl) rfl ?_
    refine WL.y (Yl.move rfl) rfl ?_
    refine WL.nil ?_
    refine WC.block ?_
    refine WC.loop (α := Nat) (fun k => [(0, .slice al xs.length cl), (1, .slice bl ys.length dl), (12, .int .i64 (xs.length : Int)), (13, .int .i64 (k : Int))]) (fun _ => []) (fun k => k ≤ xs.length ∧ xs.take k = ys.take k) (fun k => xs.length - k) 0 ⟨Nat.zero_le _, by simp⟩ ⟨(by repeat (first | exact Sub.nil | refine Sub.cons rfl ?_)), _, (by repeat (first | exact TakeL.nil | (apply TakeL.cons; · repeat (first | exact Take1.head | apply Take1.tail))))⟩ ?_
    rintro k ⟨hk, hsame⟩
    refine WC.seq ?_
    refine WC.region ?_
    refine WL.y (Yl.lss rfl rfl) rfl ?_
    refine WL.nil ?_
    refine WC.seq ?_
    refine WC.condD rfl (fun g14 => ?_) (fun g14 => ?_)
    · refine WC.skip ?_
      refine WC.seq ?_
      refine WC.block ?_
      refine WC.seq ?_
      refine WC.region ?_
      refine WL.y (Yl.move rfl) rfl ?_
      refine WL.y (Yl.assign rfl) rfl ?_
      refine WL.nil ?_
      refine WC.seq ?_
      have hkl : k < xs.length := by have := g14; omega
      obtain ⟨x, hx0⟩ : ∃ x, xs[k]? = some x := ⟨_, List.getElem?_eq_getElem hkl⟩
      obtain ⟨y, hy0⟩ : ∃ x, ys[k]? = some x := ⟨_, List.getElem?_eq_getElem (by omega)⟩
      refine WC.drawRead mixed (by kernel_rfl) ?_
      refine WH.y (Yl.move rfl) rfl ?_
      refine WH.y (Yl.move rfl) rfl ?_
      refine WH.y (Yl.index un49 sz3 rfl rfl (Reads.s hx) rfl (by omega)) rfl ?_
      refine WH.y (Yl.loadE (j := k) on3 rfl (Reads.s hx) (u := .int .i64 x) (by simp [ints, hx0])) rfl ?_
      refine WH.y (Yl.move rfl) rfl ?_
      refine WH.y (Yl.move rfl) rfl ?_
      refine WH.y (Yl.index un49 sz3 rfl rfl (Reads.s hy) rfl (by omega)) rfl ?_
      refine WH.y (Yl.loadE (j := k) on3 rfl (Reads.s hy) (u := .int .i64 y) (by simp [ints, hy0])) rfl ?_
      refine WH.y (Yl.neq rfl rfl) rfl ?_
      refine WH.nil ?_
      refine WC.condD rfl (fun g24 => ?_) (fun g24 => ?_)
      · refine WC.seq ?_
        refine WC.region ?_
        refine WL.y (Yl.assign rfl) rfl ?_
        refine WL.nil ?_
        refine WC.ret ?_
        repeat (first | (with_reducible refine peelT ?_) | (with_reducible refine peelB ?_) | (with_reducible refine peelTX ?_) | (with_reducible refine peelBX ?_) | (with_reducible refine peelBN ?_) | (with_reducible refine peelBO rfl ?_))
        have hne : ¬ xs = ys := fun e => by
          subst e
          rw [hx0] at hy0
          exact g24 (Option.some.inj hy0)
        exact ret1 (.inr rfl) Try.results20 rfl fun w' h => ⟨(), trivial, by rw [decide_eq_false hne], h.sub (by repeat (first | exact TakeL.nil | (apply TakeL.cons; · repeat (first | exact Take1.head | apply Take1.tail))))⟩
      · refine WC.skip ?_
        refine WC.region ?_
        refine WL.y (Yl.add rfl rfl (IntWalk.i64_in _ (by omega))) rfl ?_
        refine WL.y (Yl.move rfl) rfl ?_
        refine WL.nil ?_
        have hxy : x = y := by have := g24; omega
        exact ⟨rfl, k + 1, ⟨by omega, (take_next hsame hx0 hy0).2 hxy⟩, by omega, (by repeat (first | exact Sub.nil | refine Sub.cons rfl ?_)), _, (by repeat (first | exact TakeL.nil | (apply TakeL.cons; · repeat (first | exact Take1.head | apply Take1.tail))))⟩
    · refine WC.exit ?_
      refine WC.seq ?_
      refine WC.region ?_
      refine WL.y (Yl.assign rfl) rfl ?_
      refine WL.nil ?_
      refine WC.ret ?_
      repeat (first | (with_reducible refine peelT ?_) | (with_reducible refine peelB ?_) | (with_reducible refine peelTX ?_) | (with_reducible refine peelBX ?_) | (with_reducible refine peelBN ?_) | (with_reducible refine peelBO rfl ?_))
      have hkn : k = xs.length := by have := g14; omega
      have he : xs = ys := by
        rw [hkn, List.take_length, hlen, List.take_length] at hsame
        exact hsame
      exact ret1 (.inr rfl) Try.results20 rfl fun w' h => ⟨(), trivial, by rw [decide_eq_true he], h.sub (by repeat (first | exact TakeL.nil | (apply TakeL.cons; · repeat (first | exact Take1.head | apply Take1.tail))))⟩
theorem idle_len (l : List Ru) : (idleU l).length ≤ l.length := by
  have := List.length_filter_le (fun i => !decU l i) (List.range l.length)
  rw [List.length_range] at this
  exact this
theorem tidyNil_any (w : World) (hw : OK w (fpL []) [] w) :
    Fn Try.prog 22 [.pointer none] [] w (fun _ : Unit => True) (fun _ => .int .i64 0) (fun _ => []) := by
  refine enterM Try.func22 rfl Try.ntmps22 rfl hw ?_
  refine WC.seq ?_
  refine WC.region ?_
  refine WL.y (Yl.assign rfl) rfl ?_
  refine WL.nil ?_
  refine WC.seq ?_
  refine WC.seq ?_
  refine WC.region ?_
  refine WL.y (Yl.move rfl) rfl ?_
  refine WL.y (Yl.nilEq un33 rfl rfl) rfl ?_
  refine WL.know (t := 8) (b' := true) rfl (by first | rfl | (simp; done) | (simp; omega)) ?_
  refine WL.nil ?_
  refine WC.condT rfl (by first | rfl | (simp; done) | (simp; omega)) ?_
  refine WC.seq ?_
  refine WC.region ?_
  refine WL.y (Yl.assign rfl) rfl ?_
  refine WL.nil ?_
  refine WC.ret ?_
  repeat (first | (with_reducible refine peelT ?_) | (with_reducible refine peelB ?_) | (with_reducible refine peelTX ?_) | (with_reducible refine peelBX ?_) | (with_reducible refine peelBN ?_) | (with_reducible refine peelBO rfl ?_))
  refine retM.of .nil ?_
  exact ret1 (.inr rfl) Try.results22 rfl fun w' h => ⟨(), trivial, rfl, h.sub (by repeat (first | exact TakeL.nil | (apply TakeL.cons; · repeat (first | exact Take1.head | apply Take1.tail))))⟩
set_option maxRecDepth 100000 in
theorem lidleNil_any (w : World) (hw : OK w (fpL []) [] w) :
    Fn Try.prog 21 [.pointer none] [] w (fun _ : Option Addr × Nat => True) (fun y => .slice y.1 0 y.2) (fun y => []) := by
  refine enterM Try.func21 rfl Try.ntmps21 rfl hw ?_
  refine WC.seq ?_
  refine WC.region ?_
  refine WL.y (Yl.assign rfl) rfl ?_
  refine WL.nil ?_
  refine WC.seq ?_
  refine WC.region ?_
  refine WL.to (To.alloc (cs := [.slice none 0 0]) zr49 rfl) rfl ?_
  intro b3
  refine WL.nil ?_
  refine WC.seq ?_
  refine WC.seq ?_
  refine WC.region ?_
  refine WL.y (Yl.move rfl) rfl ?_
  refine WL.callC (xs := [.tmp 5]) (cap := []) rfl rfl en39 (by repeat (first | exact TakeL.nil | (apply TakeL.cons; · repeat (first | exact Take1.head | apply Take1.tail)))) (fun w hw => idleNil_any w hw.left.here) rfl ?_
  rintro ⟨y6, own6⟩ -
  dsimp only [List.cons_append, List.nil_append]
  refine WL.nil ?_
  refine WC.block ?_
  refine WC.range (α := Unit) (xs := yiU []) (fun i s => [blkR b3 49 [.slice none 0 0]]) (fun _ _ => True) () rfl en62 yiU_size rfl (by repeat (first | exact Take1.head | apply Take1.tail)) trivial (by repeat (first | exact TakeL.nil | (apply TakeL.cons; · repeat (first | exact Take1.head | apply Take1.tail)))) (fun l2 i x s hx => by simp [yiU] at hx) ?_
  rintro _ D -
  dsimp only [List.cons_append, List.nil_append]
  refine WC.seq ?_
  refine WC.region ?_
  refine WL.y (Yl.load on49 rfl (by repeat (first | exact Take1.head | apply Take1.tail)) (by rfl)) rfl ?_
  refine WL.y (Yl.assign rfl) rfl ?_
  refine WL.nil ?_
  refine WC.ret ?_
  repeat (first | (with_reducible refine peelT ?_) | (with_reducible refine peelB ?_) | (with_reducible refine peelTX ?_) | (with_reducible refine peelBX ?_) | (with_reducible refine peelBN ?_) | (with_reducible refine peelBO rfl ?_))
  refine retM.of (.cons (by repeat (first | exact Take1.head | apply Take1.tail)) .nil) ?_
  exact ret1 (.inr rfl) Try.results21 rfl fun w' h => ⟨(none, 0), trivial, rfl, h.sub (by repeat (first | exact TakeL.nil | (apply TakeL.cons; · repeat (first | exact Take1.head | apply Take1.tail))))⟩
set_option maxRecDepth 100000 in
theorem lidle_any (b : Nat) (ao : Option Addr) (ca : Nat) (p : Po) (hp : p.ok) (w : World) (hw : OK w (fpL [roR (blkR b 80 (p.cells (.slice ao p.rl.length ca))), rdR (.slice ao p.rl.length ca) 5 p.rl.length (vcs ruV p.rl)]) [roR (blkR b 80 (p.cells (.slice ao p.rl.length ca))), rdR (.slice ao p.rl.length ca) 5 p.rl.length (vcs ruV p.rl)] w) :
    Fn Try.prog 21 [.pointer (some ⟨b, 0, none⟩)] [roR (blkR b 80 (p.cells (.slice ao p.rl.length ca))), rdR (.slice ao p.rl.length ca) 5 p.rl.length (vcs ruV p.rl)] w (fun _ : Option Addr × Nat => True) (fun y => .slice y.1 (idleU p.rl).length y.2) (fun y => [ownR (.slice y.1 (idleU p.rl).length y.2) 3 1 (idleU p.rl).length (ints .i64 (natI (idleU p.rl)))]) := by
  have hln := hp.len
  have hil := idle_len p.rl
  obtain ⟨G, hG⟩ : ∃ G, idleU p.rl = G := ⟨_, rfl⟩
  refine enterM Try.func21 rfl Try.ntmps21 rfl hw ?_
  refine WC.seq ?_
  refine WC.region ?_
  refine WL.y (Yl.assign rfl) rfl ?_
  refine WL.nil ?_
  refine WC.seq ?_
  refine WC.region ?_
  refine WL.to (To.alloc (cs := [.slice none 0 0]) zr49 rfl) rfl ?_
  intro b3
  refine WL.nil ?_
  refine WC.seq ?_
  refine WC.seq ?_
  refine WC.region ?_
  refine WL.y (Yl.move rfl) rfl ?_
  refine WL.callC (xs := [.tmp 5]) (cap := []) rfl rfl en39 (by repeat (first | exact TakeL.nil | (apply TakeL.cons; · repeat (first | exact Take1.head | apply Take1.tail)))) (fun w hw => idleP_any b ao ca p hp w hw.left.here) rfl ?_
  rintro ⟨y6, own6⟩ -
  rw [hG] at hil ⊢
  dsimp only [List.cons_append, List.nil_append]
  refine WL.nil ?_
  refine WC.block ?_
  refine WC.view (fun w h => h.addNil 3 1) ?_
  refine WC.range (α := Option Addr × Nat) (xs := yiU G) (fun i s => [blkR b3 49 [.slice s.1 (G.take i).length s.2], ownR (.slice s.1 (G.take i).length s.2) 3 1 (G.take i).length (ints .i64 (natI (G.take i)))]) (fun _ _ => True) (none, 0) rfl en62 yiU_size rfl (by repeat (first | exact Take1.head | apply Take1.tail)) trivial (by repeat (first | exact TakeL.nil | (apply TakeL.cons; · repeat (first | exact Take1.head | apply Take1.tail)))) ?_ ?_
  · rintro l2 i x ⟨ao4, c4⟩ hx - W
    dsimp only
    obtain ⟨x, hx0, rfl⟩ := yiU_at hx
    have hil2 := (List.getElem?_eq_some_iff.1 hx0).1
    have hnx : G.take (i + 1) = G.take i ++ [x] := (take_snoc _ _ _ hx0).symm
    have htl : (G.take i).length = i := by rw [List.length_take]; omega
    have htl2 : (G.take (i + 1)).length = i + 1 := by rw [List.length_take]; omega
    show WC _ _ _ ((7, .int .i64 (x : Int)) :: _) _ _
    refine WC.region ?_
    refine WL.y (Yl.assign rfl) rfl ?_
    refine WL.nil ?_
    repeat (first | (with_reducible refine peelT ?_) | (with_reducible refine peelB ?_) | (with_reducible refine peelTX ?_) | (with_reducible refine peelBX ?_) | (with_reducible refine peelBN ?_) | (with_reducible refine peelBO rfl ?_))
    refine fun W2 => ?_
    refine WC.block ?_
    refine WC.seq ?_
    refine WC.region ?_
    refine WL.y (Yl.load on49 rfl (by repeat (first | exact Take1.head | apply Take1.tail)) (by rfl)) rfl ?_
    refine WL.y (Yl.move rfl) rfl ?_
    refine WL.to (To.buildSlice (vs := [.int .i64 (x : Int)]) un49 zs3 rfl rfl (by simp [Value.cells]) (by decide) (by decide)) rfl ?_
    intro b10
    refine WL.to (To.append sl49 rfl rfl (by repeat (first | exact Take1.head | apply Take1.tail)) (Reads.of (RdOf.blk (size := 1) (n := 1) (cs := [.int .i64 (x : Int)]) (cs' := ints .i64 (natI [x])) (Nat.le_refl _) (by unfold maxLen; omega) (by simp) rfl) (by repeat (first | exact Take1.head | apply Take1.tail))) (ints_one _ _) (show (G.take i).length + 1 = (G.take (i + 1)).length by omega) (show ints .i64 (natI (G.take i)) ++ ints .i64 (natI [x]) = ints .i64 (natI (G.take (i + 1))) by rw [hnx, natI_app, ints_append]) (by unfold maxLen; omega) (by omega)) rfl ?_
    rintro ⟨⟨ao11, c11⟩, hc11⟩
    dsimp only at hc11 ⊢
    refine WL.sto (Sto.one sz49 rfl rfl (by repeat (first | exact Take1.head | apply Take1.tail)) rfl (by rfl) (by rfl)) (fun _ h => nomatch h) ?_
    refine WL.nil ?_
    refine WC.seq ?_
    refine WC.region ?_
    refine WL.y (Yl.load on49 rfl (by repeat (first | exact Take1.head | apply Take1.tail)) (by rfl)) rfl ?_
    refine WL.y (Yl.len un49 rfl) rfl ?_
    refine WL.y (Yl.gtr rfl rfl) rfl ?_
    refine WL.know (t := 14) (b' := false) rfl (by apply decide_eq_false; omega) ?_
    refine WL.nil ?_
    refine WC.condF rfl (by first | rfl | (simp; done) | (simp; omega)) ?_
    refine WC.skip ?_
    repeat (first | (with_reducible refine peelT ?_) | (with_reducible refine peelB ?_) | (with_reducible refine peelTX ?_) | (with_reducible refine peelBX ?_) | (with_reducible refine peelBN ?_) | (with_reducible refine peelBO rfl ?_))
    exact ⟨[blkR b3 49 [.slice ao11 (G.take (i + 1)).length c11], ownR (.slice ao11 (G.take (i + 1)).length c11) 3 1 (G.take (i + 1)).length (ints .i64 (natI (G.take (i + 1))))], _, (by repeat (first | exact TakeL.nil | (apply TakeL.cons; · repeat (first | exact Take1.head | apply Take1.tail)))), (ao11, c11), trivial, rfl⟩
  · rintro ⟨ao4, c4⟩ D -
    rw [yiU_len, List.take_length]
    dsimp only [List.cons_append, List.nil_append]
    refine WC.seq ?_
    refine WC.region ?_
    refine WL.y (Yl.load on49 rfl (by repeat (first | exact Take1.head | apply Take1.tail)) (by rfl)) rfl ?_
    refine WL.y (Yl.assign rfl) rfl ?_
    refine WL.nil ?_
    refine WC.ret ?_
    repeat (first | (with_reducible refine peelT ?_) | (with_reducible refine peelB ?_) | (with_reducible refine peelTX ?_) | (with_reducible refine peelBX ?_) | (with_reducible refine peelBN ?_) | (with_reducible refine peelBO rfl ?_))
    refine retM.of (.cons (by repeat (first | exact Take1.head | apply Take1.tail)) .nil) ?_
    exact ret1 (.inr rfl) Try.results21 rfl fun w' h => ⟨(ao4, c4), trivial, rfl, h.sub (by repeat (first | exact TakeL.nil | (apply TakeL.cons; · repeat (first | exact Take1.head | apply Take1.tail))))⟩
end Go.Proofs.Ytnlibngncicobaa
