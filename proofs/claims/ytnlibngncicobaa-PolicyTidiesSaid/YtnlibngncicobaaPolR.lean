/- Policies of rules; the rule at a place: the walks; what is told of a call: plain laws. -/
import Derived.Test.YtnlibngncicobaaPolN
namespace Go.Proofs.Ytnlibngncicobaa
open Go Go.RowKit
/-- The rules that may be, 64 at most. -/
def lnU (l : List Ru) : List Ru := (l.filter mayU).take 64
def laidP (d : Int) (l : List Ru) : Po := { Po.new d with rl := lnU l }
theorem lnU_len (l : List Ru) : (lnU l).length ≤ 64 := by unfold lnU; rw [List.length_take]; omega
theorem lnU_mem {l : List Ru} {r : Ru} (h : r ∈ lnU l) : r ∈ l ∧ mayU r = true := List.mem_filter.1 (List.mem_of_mem_take h)
theorem lnU_no {l : List Ru} {x : Ru} (h : mayU x = false) : lnU (l ++ [x]) = lnU l := by
  unfold lnU
  rw [List.filter_append]
  simp [h]
theorem lnU_yes {l : List Ru} {x : Ru} (h : mayU x = true) (hl : ¬ (lnU l).length = 64) : lnU (l ++ [x]) = lnU l ++ [x] := by
  unfold lnU at hl ⊢
  rw [List.length_take] at hl
  rw [List.filter_append]
  simp only [List.filter_cons, h, List.filter_nil, if_true]
  rw [List.take_of_length_le (by rw [List.length_append, List.length_singleton]; omega), List.take_of_length_le (by omega)]
theorem lnU_full {l : List Ru} {x : Ru} (hl : (lnU l).length = 64) : lnU (l ++ [x]) = lnU l := by
  unfold lnU at hl ⊢
  rw [List.length_take] at hl
  rw [List.filter_append, List.take_append_of_le_length (by omega)]
theorem laid_ok {d : Int} {l : List Ru} (hd : telU d = true) (hl : UOk l) : (laidP d l).ok :=
  newOk_any d (lnU l) hd (fun r h => hl r (lnU_mem h).1) (fun r h => (lnU_mem h).2) (lnU_len l)
theorem laidBad_any (d : Int) (v : Value) (hd : telU d = false) (w : World) (hw : OK w (fpL []) [] w) :
    Fn Try.prog 29 [.int .u8 d, v] [] w (fun _ : Unit => True) (fun _ => .pointer none) (fun _ => []) := by
  refine enterF Try.func29 rfl Try.ntmps29 rfl hw ?_
  refine WC.seq ?_
  refine WC.region ?_
  refine WL.y (Yl.assign rfl) rfl ?_
  refine WL.nil ?_
  refine WC.seq ?_
  refine WC.region ?_
  refine WL.y (Yl.move rfl) rfl ?_
  refine WL.callC (xs := [.tmp 11]) (cap := []) rfl rfl en13 (by repeat (first | exact TakeL.nil | (apply TakeL.cons; · repeat (first | exact Take1.head | apply Take1.tail)))) (fun w hw => newBad_any d hd w hw.left.here) rfl ?_
  rintro ⟨⟩ -
  refine WL.y (Yl.move rfl) rfl ?_
  refine WL.y (Yl.extract rfl rfl) rfl ?_
  refine WL.y (Yl.extract rfl rfl) rfl ?_
  refine WL.y (Yl.assign rfl) rfl ?_
  refine WL.y (Yl.assign rfl) rfl ?_
  refine WL.nil ?_
  refine WC.seq ?_
  refine WC.seq ?_
  refine WC.region ?_
  refine WL.y (Yl.move rfl) rfl ?_
  refine WL.y (Yl.neq rfl rfl) rfl ?_
  refine WL.know (t := 16) (b' := true) rfl (by first | rfl | (simp; done) | (simp; omega)) ?_
  refine WL.nil ?_
  refine WC.condT rfl (by first | rfl | (simp; done) | (simp; omega)) ?_
  refine WC.seq ?_
  refine WC.region ?_
  refine WL.y (Yl.assign rfl) rfl ?_
  refine WL.nil ?_
  refine WC.ret ?_
  repeat (first | (with_reducible refine peelT ?_) | (with_reducible refine peelB ?_) | (with_reducible refine peelTX ?_) | (with_reducible refine peelBX ?_) | (with_reducible refine peelBN ?_) | (with_reducible refine peelBO rfl ?_))
  exact ret1 (.inr rfl) Try.results29 rfl fun w' h => ⟨(), trivial, rfl, h.sub (by repeat (first | exact TakeL.nil | (apply TakeL.cons; · repeat (first | exact Take1.head | apply Take1.tail))))⟩
set_option maxRecDepth 100000 in
theorem laid_any (d : Int) (v : Value) (l : List Ru) (hd : telU d = true) (hl : UOk l) (hn : l.length ≤ 281474976710656) (w : World) (hx : RdS w (fpL []) v 5 l.length (vcs ruV l)) (hw : OK w (fpL []) [] w) :
    Fn Try.prog 29 [.int .u8 d, v] [] w (fun _ : Nat × Option Addr × Nat => True) (fun y => .pointer (some ⟨y.1, 0, none⟩)) (fun y => polR y.1 y.2.1 y.2.2 (laidP d l)) := by
  obtain ⟨al, cl, rfl, hcl, hml⟩ := hx.rd.form
  refine enterF Try.func29 rfl Try.ntmps29 rfl hw ?_
  refine WC.seq ?_
  refine WC.region ?_
  refine WL.y (Yl.assign rfl) rfl ?_
  refine WL.nil ?_
  refine WC.seq ?_
  refine WC.region ?_
  refine WL.y (Yl.move rfl) rfl ?_
  refine WL.callC (xs := [.tmp 11]) (cap := []) rfl rfl en13 (by repeat (first | exact TakeL.nil | (apply TakeL.cons; · repeat (first | exact Take1.head | apply Take1.tail)))) (fun w hw => newP_any d hd w hw.left.here) rfl ?_
  rintro bp -
  dsimp only [polR, List.cons_append, List.nil_append]
  refine WL.y (Yl.move rfl) rfl ?_
  refine WL.y (Yl.extract rfl rfl) rfl ?_
  refine WL.y (Yl.extract rfl rfl) rfl ?_
  refine WL.y (Yl.assign rfl) rfl ?_
  refine WL.y (Yl.assign rfl) rfl ?_
  refine WL.nil ?_
  refine WC.seq ?_
  refine WC.seq ?_
  refine WC.region ?_
  refine WL.y (Yl.move rfl) rfl ?_
  refine WL.y (Yl.neq rfl rfl) rfl ?_
  refine WL.know (t := 16) (b' := false) rfl (by first | rfl | (simp; done) | (simp; omega)) ?_
  refine WL.nil ?_
  refine WC.condF rfl (by first | rfl | (simp; done) | (simp; omega)) ?_
  refine WC.skip ?_
  refine WC.seq ?_
  refine WC.region ?_
  refine WL.y (Yl.assign rfl) rfl ?_
  refine WL.nil ?_
  refine WC.seq ?_
  refine WC.seq ?_
  refine WC.region ?_
  refine WL.y (Yl.move rfl) rfl ?_
  refine WL.y (Yl.len un64 rfl) rfl ?_
  refine WL.y (Yl.move rfl) rfl ?_
  refine WL.nil ?_
  refine WC.block ?_
  refine WC.loop (α := Nat × (Option Addr × Nat)) (fun s => [(5, .pointer (some ⟨bp, 0, none⟩)), (7, .int .i64 ((lnU (l.take s.1)).length : Int)), (17, .slice al l.length cl), (18, .int .i64 (l.length : Int)), (19, .int .i64 (s.1 : Int))]) (fun s => polR bp s.2.1 s.2.2 (laidP d (l.take s.1))) (fun s => s.1 ≤ l.length) (fun s => l.length - s.1) (0, (none, 0)) (Nat.zero_le _) ⟨(by repeat (first | exact Sub.nil | refine Sub.cons rfl ?_)), _, (by repeat (first | exact TakeL.nil | (apply TakeL.cons; · repeat (first | exact Take1.head | apply Take1.tail))))⟩ ?_
  rintro ⟨k, aoP, caP⟩ hk
  dsimp only at hk ⊢
  have hpk : (laidP d (l.take k)).ok := laid_ok hd (fun r h => hl r (List.mem_of_mem_take h))
  have hlk := lnU_len (l.take k)
  refine WC.seq ?_
  refine WC.region ?_
  refine WL.y (Yl.lss rfl rfl) rfl ?_
  refine WL.nil ?_
  refine WC.seq ?_
  refine WC.condD rfl (fun g20 => ?_) (fun g20 => ?_)
  · refine WC.skip ?_
    refine WC.seq ?_
    refine WC.block ?_
    refine WC.seq ?_
    refine WC.region ?_
    have hkl : k < l.length := by omega
    obtain ⟨x, hx0⟩ : ∃ x, l[k]? = some x := ⟨_, List.getElem?_eq_getElem hkl⟩
    have hxo := hl.get hx0
    have hnx := take_snoc _ _ _ hx0
    refine WL.y (Yl.index un64 sz24 rfl rfl (Reads.s hx) rfl (by omega)) rfl ?_
    refine WL.y (Yl.loadV (j := k) (u := x) vtU hl rfl (Reads.s hx) rfl hx0) rfl ?_
    refine WL.to (To.alloc (cs := Ru.zero.cells) zr24 rfl) rfl ?_
    intro b9
    refine WL.sto (Sto.agg sz24 rfl rfl (by repeat (first | exact Take1.head | apply Take1.tail)) (Ru.ones _) (Ru.len x) (by rfl) (Ru.all Ru.zero x.cells (Ru.len x))) (fun _ h => nomatch h) ?_
    refine WL.nil ?_
    refine WC.seq ?_
    refine WC.region ?_
    refine WL.y (Yl.move rfl) rfl ?_
    refine WL.y (Yl.move rfl) rfl ?_
    refine WL.y (Yl.loadN ag24 rfl (by repeat (first | exact Take1.head | apply Take1.tail)) (by rfl) (Ru.call x)) rfl ?_
    refine WL.callC (xs := [.tmp 23, .tmp 24, .tmp 25]) (cap := []) rfl rfl en14 (by repeat (first | exact TakeL.nil | (apply TakeL.cons; · repeat (first | exact Take1.head | apply Take1.tail)))) (fun w hw => insP_any bp aoP caP (laidP d (l.take k)) ((lnU (l.take k)).length : Int) x hpk hxo w hw.left.here) rfl ?_
    rintro ⟨ao2, ca2⟩ -
    dsimp only [polR, List.cons_append, List.nil_append]
    refine WL.y (Yl.eql rfl rfl) rfl ?_
    refine WL.nil ?_
    refine WC.condD rfl (fun g27 => ?_) (fun g27 => ?_)
    · refine WC.region ?_
      refine WL.y (Yl.move rfl) rfl ?_
      refine WL.y (Yl.add rfl rfl (IntWalk.i64_in _ (by omega))) rfl ?_
      refine WL.y (Yl.assign rfl) rfl ?_
      refine WL.nil ?_
      refine WC.region ?_
      refine WL.y (Yl.add rfl rfl (IntWalk.i64_in _ (by omega))) rfl ?_
      refine WL.y (Yl.move rfl) rfl ?_
      refine WL.nil ?_
      have hm : mayU x = true := by
        cases hm : mayU x with
        | false => exact absurd (insE_may (p := laidP d (l.take k)) (z := ((lnU (l.take k)).length : Int)) hm).1 (by intro h; rw [h] at g27; omega)
        | true => rfl
      have hz : ¬ (((lnU (l.take k)).length : Int) < 0 ∨ ((laidP d (l.take k)).rl.length : Int) < ((lnU (l.take k)).length : Int)) := by
        show ¬ (((lnU (l.take k)).length : Int) < 0 ∨ ((lnU (l.take k)).length : Int) < ((lnU (l.take k)).length : Int))
        omega
      have hf : ¬ (lnU (l.take k)).length = 64 := fun hf => by
        have := (insE_full (p := laidP d (l.take k)) (z := ((lnU (l.take k)).length : Int)) hm hz hf).1
        rw [this] at g27
        omega
      have hn1 := lnU_yes hm hf
      rw [hnx] at hn1
      have hi2 : insP (laidP d (l.take k)) ((lnU (l.take k)).length : Int) x = laidP d (l.take (k + 1)) := by
        rw [(insE_ok (p := laidP d (l.take k)) hm hz hf).2, Int.toNat_natCast]
        unfold laidP
        dsimp only
        unfold insU
        rw [List.take_length, List.drop_length, ← hn1]
      have hl1 : (lnU (l.take (k + 1))).length = (lnU (l.take k)).length + 1 := by rw [hn1, List.length_append]; rfl
      rw [hi2]
      exact ⟨rfl, (k + 1, ao2, ca2), by dsimp only; omega, by dsimp only; omega, by dsimp only; rw [hl1]; exact (by repeat (first | exact Sub.nil | refine Sub.cons rfl ?_)), _, (by repeat (first | exact TakeL.nil | (apply TakeL.cons; · repeat (first | exact Take1.head | apply Take1.tail))))⟩
    · refine WC.skip ?_
      refine WC.region ?_
      refine WL.y (Yl.add rfl rfl (IntWalk.i64_in _ (by omega))) rfl ?_
      refine WL.y (Yl.move rfl) rfl ?_
      refine WL.nil ?_
      have hi2 : insP (laidP d (l.take k)) ((lnU (l.take k)).length : Int) x = laidP d (l.take (k + 1)) ∧ lnU (l.take (k + 1)) = lnU (l.take k) := by
        have hz : ¬ (((lnU (l.take k)).length : Int) < 0 ∨ ((laidP d (l.take k)).rl.length : Int) < ((lnU (l.take k)).length : Int)) := by
          show ¬ (((lnU (l.take k)).length : Int) < 0 ∨ ((lnU (l.take k)).length : Int) < ((lnU (l.take k)).length : Int))
          omega
        have hsame : lnU (l.take (k + 1)) = lnU (l.take k) := by
          rw [← hnx]
          cases hm : mayU x with
          | false => exact lnU_no hm
          | true =>
            by_cases hf : (lnU (l.take k)).length = 64
            · exact lnU_full hf
            · exact absurd (insE_ok (p := laidP d (l.take k)) hm hz hf).1 g27
        refine ⟨?_, hsame⟩
        have hp : insP (laidP d (l.take k)) ((lnU (l.take k)).length : Int) x = laidP d (l.take k) := by
          unfold insP
          rw [if_neg g27]
        rw [hp]
        unfold laidP
        rw [hsame]
      obtain ⟨hi2, hi3⟩ := hi2
      rw [hi2]
      exact ⟨rfl, (k + 1, ao2, ca2), by dsimp only; omega, by dsimp only; omega, by dsimp only; rw [hi3]; exact (by repeat (first | exact Sub.nil | refine Sub.cons rfl ?_)), _, (by repeat (first | exact TakeL.nil | (apply TakeL.cons; · repeat (first | exact Take1.head | apply Take1.tail))))⟩
  · refine WC.exit ?_
    refine WC.seq ?_
    refine WC.region ?_
    refine WL.y (Yl.move rfl) rfl ?_
    refine WL.y (Yl.assign rfl) rfl ?_
    refine WL.nil ?_
    refine WC.ret ?_
    repeat (first | (with_reducible refine peelT ?_) | (with_reducible refine peelB ?_) | (with_reducible refine peelTX ?_) | (with_reducible refine peelBX ?_) | (with_reducible refine peelBN ?_) | (with_reducible refine peelBO rfl ?_))
    have hkl : k = l.length := by omega
    subst hkl
    rw [List.take_length]
    exact ret1 (.inr rfl) Try.results29 rfl fun w' h => ⟨(bp, aoP, caP), trivial, rfl, h.sub (by repeat (first | exact TakeL.nil | (apply TakeL.cons; · repeat (first | exact Take1.head | apply Take1.tail))))⟩
/-- The rule at a place, if there is one. -/
def rlU (l : List Ru) (z : Int) : Option Ru := if z < 0 then none else l[z.toNat]?
set_option maxRecDepth 100000 in
theorem rule_any (b : Nat) (ao : Option Addr) (ca : Nat) (p : Po) (z : Int) (hp : p.ok) (w : World) (hw : OK w (fpL [roR (blkR b 80 (p.cells (.slice ao p.rl.length ca))), rdR (.slice ao p.rl.length ca) 5 p.rl.length (vcs ruV p.rl)]) [roR (blkR b 80 (p.cells (.slice ao p.rl.length ca))), rdR (.slice ao p.rl.length ca) 5 p.rl.length (vcs ruV p.rl)] w) :
    Fn Try.prog 30 [.pointer (some ⟨b, 0, none⟩), .int .i64 z] [roR (blkR b 80 (p.cells (.slice ao p.rl.length ca))), rdR (.slice ao p.rl.length ca) 5 p.rl.length (vcs ruV p.rl)] w (fun _ : Unit => True) (fun _ => .tuple #[ruV ((rlU p.rl z).getD Ru.zero), .bool (rlU p.rl z).isSome]) (fun _ => []) := by
  have hG := UOk.of hp
  have hln := hp.len
  refine enterM Try.func30 rfl Try.ntmps30 rfl hw ?_
  refine WC.seq ?_
  refine WC.region ?_
  refine WL.to (To.box (cs := [.int .i64 z]) rfl rfl) rfl ?_
  intro b3
  refine WL.to (To.alloc (cs := Ru.zero.cells) zr24 rfl) rfl ?_
  intro b4
  refine WL.to (To.alloc (cs := [.bool false]) zr4 rfl) rfl ?_
  intro b5
  refine WL.nil ?_
  refine WC.seq ?_
  refine WC.seq ?_
  refine WC.region ?_
  refine WL.y (Yl.move rfl) rfl ?_
  refine WL.callC (xs := [.tmp 8]) (cap := []) rfl rfl en32 (by repeat (first | exact TakeL.nil | (apply TakeL.cons; · repeat (first | exact Take1.head | apply Take1.tail)))) (fun w hw => rules_any b ao ca p hG (by omega) w hw.left.here) rfl ?_
  rintro ⟨bn, own⟩ -
  dsimp only [List.cons_append, List.nil_append]
  refine WL.nil ?_
  refine WC.block ?_
  refine WC.range (α := Unit) (xs := yrU p.rl) (fun i _ => [blkR b3 3 [.int .i64 z], blkR b4 24 Ru.zero.cells, blkR b5 4 [.bool false]]) (fun i _ => ∀ j : Nat, j < i → ¬ (j : Int) = z) () rfl en71 yrU_size rfl (by repeat (first | exact Take1.head | apply Take1.tail)) (fun j h => by omega) (by repeat (first | exact TakeL.nil | (apply TakeL.cons; · repeat (first | exact Take1.head | apply Take1.tail)))) ?_ ?_
  · intro l i x _ hx hs W
    obtain ⟨x, hx0, rfl⟩ := yrU_at hx
    show WC _ _ _ ((11, .agg x.cells.toArray) :: (10, .int .i64 (i : Int)) :: _) _ _
    refine WC.seq ?_
    refine WC.region ?_
    refine WL.y (Yl.assign rfl) rfl ?_
    refine WL.nil ?_
    refine WC.region ?_
    refine WL.to (To.alloc (cs := Ru.zero.cells) zr24 rfl) rfl ?_
    intro b7
    refine WL.sto (Sto.agg sz24 rfl rfl (by repeat (first | exact Take1.head | apply Take1.tail)) (Ru.ones _) (Ru.len x) (by rfl) (Ru.all Ru.zero x.cells (Ru.len x))) (fun _ h => nomatch h) ?_
    refine WL.nil ?_
    repeat (first | (with_reducible refine peelT ?_) | (with_reducible refine peelB ?_) | (with_reducible refine peelTX ?_) | (with_reducible refine peelBX ?_) | (with_reducible refine peelBN ?_) | (with_reducible refine peelBO rfl ?_))
    refine fun W2 => ?_
    refine WC.block ?_
    refine WC.seq ?_
    refine WC.region ?_
    refine WL.y (Yl.move rfl) rfl ?_
    refine WL.y (Yl.load on3 rfl (by repeat (first | exact Take1.head | apply Take1.tail)) (by rfl)) rfl ?_
    refine WL.y (Yl.eql rfl rfl) rfl ?_
    refine WL.nil ?_
    refine WC.condD rfl (fun g14 => ?_) (fun g14 => ?_)
    · refine WC.seq ?_
      refine WC.region ?_
      refine WL.y (Yl.loadN ag24 rfl (by repeat (first | exact Take1.head | apply Take1.tail)) (by rfl) (Ru.call x)) rfl ?_
      refine WL.sto (Sto.agg sz24 rfl rfl (by repeat (first | exact Take1.head | apply Take1.tail)) (Ru.ones _) (Ru.len x) (by rfl) (Ru.all Ru.zero x.cells (Ru.len x))) (fun _ h => nomatch h) ?_
      refine WL.sto (Sto.one sz4 rfl rfl (by repeat (first | exact Take1.head | apply Take1.tail)) rfl (by rfl) (by rfl)) (fun _ h => nomatch h) ?_
      refine WL.nil ?_
      refine WC.ret ?_
      repeat (first | (with_reducible refine peelT ?_) | (with_reducible refine peelB ?_) | (with_reducible refine peelTX ?_) | (with_reducible refine peelBX ?_) | (with_reducible refine peelBN ?_) | (with_reducible refine peelBO rfl ?_))
      have hf : rlU p.rl z = some x := by
        have hz : (i : Int) = z := g14
        unfold rlU
        rw [if_neg (by omega), ← hz, Int.toNat_natCast, hx0]
      rw [hf]
      refine ⟨[blkR b4 24 x.cells, blkR b5 4 [.bool true]], _, (by repeat (first | exact TakeL.nil | (apply TakeL.cons; · repeat (first | exact Take1.head | apply Take1.tail)))), fun D => ?_⟩
      dsimp only [List.cons_append, List.nil_append]
      repeat (first | (with_reducible refine peelT ?_) | (with_reducible refine peelB ?_) | (with_reducible refine peelTX ?_) | (with_reducible refine peelBX ?_) | (with_reducible refine peelBN ?_) | (with_reducible refine peelBO rfl ?_))
      refine retM.of (.cons (by repeat (first | exact Take1.head | apply Take1.tail)) .nil) ?_
      exact retCV (.inr rfl) Try.results30 ag24 on4 rfl rfl (by repeat (first | exact Take1.head | apply Take1.tail)) (by repeat (first | exact Take1.head | apply Take1.tail)) rfl fun w' h => ⟨(), trivial, rfl, h.sub (by repeat (first | exact TakeL.nil | (apply TakeL.cons; · repeat (first | exact Take1.head | apply Take1.tail))))⟩
    · refine WC.skip ?_
      repeat (first | (with_reducible refine peelT ?_) | (with_reducible refine peelB ?_) | (with_reducible refine peelTX ?_) | (with_reducible refine peelBX ?_) | (with_reducible refine peelBN ?_) | (with_reducible refine peelBO rfl ?_))
      exact ⟨[blkR b3 3 [.int .i64 z], blkR b4 24 Ru.zero.cells, blkR b5 4 [.bool false]], _, (by repeat (first | exact TakeL.nil | (apply TakeL.cons; · repeat (first | exact Take1.head | apply Take1.tail)))), (), fun k hk => by
        by_cases e : k = i
        · subst e
          exact g14
        · exact hs k (by omega), rfl⟩
  · rintro _ D hs
    have hf : rlU p.rl z = none := by
      unfold rlU
      split
      · rfl
      · refine List.getElem?_eq_none ?_
        refine Nat.le_of_not_lt fun hlt => hs z.toNat (by rw [yrU_len]; exact hlt) (by omega)
    rw [hf]
    dsimp only [List.cons_append, List.nil_append]
    refine WC.seq ?_
    refine WC.region ?_
    refine WL.y (Yl.build rfl (cs := Ru.zero.cells) (fun _ => by kernel_rfl)) rfl ?_
    refine WL.sto (Sto.agg sz24 rfl rfl (by repeat (first | exact Take1.head | apply Take1.tail)) (Ru.ones _) rfl (by rfl) (Ru.all Ru.zero Ru.zero.cells rfl)) (fun _ h => nomatch h) ?_
    refine WL.sto (Sto.one sz4 rfl rfl (by repeat (first | exact Take1.head | apply Take1.tail)) rfl (by rfl) (by rfl)) (fun _ h => nomatch h) ?_
    refine WL.nil ?_
    refine WC.ret ?_
    repeat (first | (with_reducible refine peelT ?_) | (with_reducible refine peelB ?_) | (with_reducible refine peelTX ?_) | (with_reducible refine peelBX ?_) | (with_reducible refine peelBN ?_) | (with_reducible refine peelBO rfl ?_))
    refine retM.of (.cons (by repeat (first | exact Take1.head | apply Take1.tail)) .nil) ?_
    exact retCV (.inr rfl) Try.results30 ag24 on4 rfl rfl (by repeat (first | exact Take1.head | apply Take1.tail)) (by repeat (first | exact Take1.head | apply Take1.tail)) rfl fun w' h => ⟨(), trivial, rfl, h.sub (by repeat (first | exact TakeL.nil | (apply TakeL.cons; · repeat (first | exact Take1.head | apply Take1.tail))))⟩
theorem ruleK_any (b : Nat) (ao : Option Addr) (ca : Nat) (p : Po) (z : Int) (hp : p.ok) (w : World) (hw : OK w (fpL (polR b ao ca p)) (polR b ao ca p) w) :
    Fn Try.prog 30 [.pointer (some ⟨b, 0, none⟩), .int .i64 z] (polR b ao ca p) w (fun _ : Unit => True) (fun _ => .tuple #[ruV ((rlU p.rl z).getD Ru.zero), .bool (rlU p.rl z).isSome]) (fun _ => polR b ao ca p) :=
  Fn.keep (fun hw => rule_any b ao ca p z hp w hw) hw
/-- What is told of a call, by the first rule that fits. -/
def tellU (p : Po) (a now : Int) : Option Ru → Int
  | none => p.df
  | some r => if agU p r a now then 1 else r.dO
theorem find_idx {α : Type} {q : α → Bool} : ∀ {l : List α}, match l.findIdx? q with
    | none => l.find? q = none
    | some i => l.find? q = l[i]? ∧ i < l.length
  | [] => rfl
  | x :: l => by
    have ih := find_idx (q := q) (l := l)
    rw [List.findIdx?_cons, List.find?_cons]
    cases hq : q x with
    | true => exact ⟨rfl, Nat.zero_lt_succ _⟩
    | false =>
      rw [if_neg (by simp)]
      cases h : l.findIdx? q with
      | none => rw [h] at ih; exact ih
      | some i =>
        rw [h] at ih
        exact ⟨ih.1, Nat.succ_lt_succ ih.2⟩
theorem ask_find (p : Po) (a now : Int) : (askU p a now).1 = tellU p a now (p.rl.find? fun r => fitU r a now) ∧ rlU p.rl (askU p a now).2 = p.rl.find? fun r => fitU r a now := by
  have h := find_idx (q := fun r => fitU r a now) (l := p.rl)
  unfold askU firU
  cases hf : p.rl.findIdx? fun r => fitU r a now with
  | none =>
    rw [hf] at h
    rw [h]
    exact ⟨rfl, rfl⟩
  | some i =>
    rw [hf] at h
    obtain ⟨h1, h2⟩ := h
    rw [h1]
    have hx := List.getElem?_eq_getElem h2
    refine ⟨?_, ?_⟩
    · rw [hx]
      dsimp only
      have : p.rl.getD i Ru.zero = p.rl[i] := by simp [List.getD, hx]
      rw [this]
      rfl
    · dsimp only
      unfold rlU
      rw [if_neg (by omega), Int.toNat_natCast]
theorem kept_find {l : List Ru} {a now : Int} (ha : 0 ≤ a ∧ a < 8) : ((keptU l).find? fun r => fitU r a now) = l.find? fun r => fitU r a now := by
  have h1 := find_idx (q := fun r => fitU r a now) (l := l)
  have h2 := find_idx (q := fun r => fitU r a now) (l := keptU l)
  rcases kept_fir (l := l) (now := now) ha with ⟨e1, e2⟩ | ⟨i, j, e1, e2, e3⟩
  · unfold firU at e1 e2
    rw [e1] at h1
    rw [e2] at h2
    rw [h1, h2]
  · unfold firU at e1 e2
    rw [e1] at h1
    rw [e2] at h2
    rw [h1.1, h2.1, e3]
def ownQ (a : Int) (r : Ru) : Bool := decide (r.acc = a) || decide (r.acc = 255)
theorem own_find {l : List Ru} {a now : Int} : ((l.filter (ownQ a)).find? fun r => fitU r a now) = l.find? fun r => fitU r a now := by
  rw [List.find?_filter]
  congr 1
  funext r
  unfold ownQ fitU
  cases h1 : decide (r.acc = a) <;> cases h2 : decide (r.acc = 255) <;> simp
theorem fit_day (r : Ru) (a now : Int) : fitU r a (now + 1440) = fitU r a now := by
  unfold fitU
  rw [Int.add_emod_right]
end Go.Proofs.Ytnlibngncicobaa

namespace Go.Proofs.Ytnlibngncicobaa
open Go Go.RowKit
theorem wfU8 {n : Int} (h : 0 ≤ n ∧ n < 256) : (Lit.int .u8 n).wf = true := by
  rw [Lit.wf_int_iff]; have e1 : IntKind.u8.min = 0 := by decide
  have e2 : IntKind.u8.max = 255 := by decide
  rw [e1, e2]; omega
theorem wfU16 {n : Int} (h : 0 ≤ n ∧ n < 65536) : (Lit.int .u16 n).wf = true := by
  rw [Lit.wf_int_iff]; have e1 : IntKind.u16.min = 0 := by decide
  have e2 : IntKind.u16.max = 65535 := by decide
  rw [e1, e2]; omega
theorem Ru.ok.fits {r : Ru} (h : r.ok) : Fits1 ruLeaf r.cells := ⟨⟨rfl, wfU8 h.acc⟩, ⟨rfl, wfU16 h.fr⟩, ⟨rfl, wfU16 h.tt⟩, ⟨rfl, wfU8 h.dO⟩, trivial, trivial⟩
theorem flRu : Flat Try.prog 24 ruLeaf := Flat.mk' 5 (by decide) (by kernel_rfl) (by kernel_rfl)
theorem fil_next {q : Ru → Bool} {l : List Ru} {k : Nat} {x : Ru} (h : l[k]? = some x) : (l.take (k + 1)).filter q = (l.take k).filter q ++ (if q x then [x] else []) := by
  rw [← take_snoc _ _ _ h, List.filter_append]
  by_cases hq : q x = true
  · simp [hq]
  · simp [hq]
theorem fil_len (q : Ru → Bool) (l : List Ru) (k : Nat) : ((l.take k).filter q).length ≤ k := Nat.le_trans (List.length_filter_le _ _) (by rw [List.length_take]; omega)
theorem find_ok {l : List Ru} {q : Ru → Bool} (h : UOk l) : ((l.find? q).getD Ru.zero).ok := by
  cases hf : l.find? q with
  | none => exact Ru.zero_ok
  | some x => exact h x (List.mem_of_find?_eq_some hf)
theorem ag_new {d : Int} {rs : List Ru} (r : Ru) (a now : Int) : agU { Po.new d with rl := rs } r a now = false := by
  unfold agU
  have : (Po.new d).no.getD a.toNat false = false := by
    show (List.replicate 8 false).getD a.toNat false = false
    unfold List.getD
    rw [List.getElem?_replicate]
    split <;> rfl
  dsimp only
  rw [this]
  simp
theorem ask_day {d : Int} {rs : List Ru} (a now : Int) : askU { Po.new d with rl := rs } a (now + 1440) = askU { Po.new d with rl := rs } a now := by
  have hf : firU rs a (now + 1440) = firU rs a now := by
    unfold firU
    congr 1
    funext r
    exact fit_day r a now
  unfold askU
  dsimp only
  rw [hf]
  cases firU rs a now with
  | none => rfl
  | some i =>
    dsimp only
    rw [ag_new, ag_new]
theorem lnU_short {l : List Ru} (h : l.length ≤ 30) : lnU l = l.filter mayU := by
  unfold lnU
  rw [List.take_of_length_le (Nat.le_trans (List.length_filter_le _ _) (by omega))]
theorem apart_find {l : List Ru} (h : l.length ≤ 30) (a now : Int) : ((lnU (l.filter (ownQ a))).find? fun r => fitU r a now) = (lnU l).find? fun r => fitU r a now := by
  rw [lnU_short h, lnU_short (Nat.le_trans (List.length_filter_le _ _) h)]
  rw [← own_find (l := l.filter mayU), List.filter_filter, List.filter_filter]
  congr 2
  funext r
  exact Bool.and_comm _ _
set_option maxRecDepth 100000 in
set_option maxHeartbeats 1000000 in
theorem apartBad_any (d : Int) (v : Value) (l : List Ru) (a now : Int) (hd : telU d = false) (hl : UOk l) (hln : l.length ≤ 17592186044416) (hn : 0 ≤ now ∧ now < 18446744073709551616) (w : World) (hw : OK w (fpL [rdR v 5 l.length (vcs ruV l)]) [rdR v 5 l.length (vcs ruV l)] w) :
    Fn Try.prog 7 [.int .u8 d, v, .int .u8 a, .int .u64 now] [rdR v 5 l.length (vcs ruV l)] w (fun _ : Unit => True) (fun _ => .bool true) (fun _ => []) := by
  obtain ⟨al, cl, rfl, hcl, hml⟩ := (hw.get .head : Rd _ _ _ _ _).form
  refine enterF Try.func7 rfl Try.ntmps7 rfl hw ?_
  refine WC.seq ?_
  refine WC.region ?_
  refine WL.y (Yl.assign rfl) rfl ?_
  refine WL.nil ?_
  refine WC.seq ?_
  refine WC.seq ?_
  refine WC.region ?_
  refine WL.callC (xs := []) (cap := []) rfl rfl en8 (by repeat (first | exact TakeL.nil | (apply TakeL.cons; · repeat (first | exact Take1.head | apply Take1.tail)))) (fun w hw => known_any w hw.left.here) rfl ?_
  rintro ⟨⟩ -
  refine WL.y (Yl.not rfl) rfl ?_
  refine WL.know (t := 25) (b' := false) rfl (by first | rfl | (simp; done) | (simp; omega)) ?_
  refine WL.nil ?_
  refine WC.condF rfl (by first | rfl | (simp; done) | (simp; omega)) ?_
  refine WC.skip ?_
  refine WC.seq ?_
  refine WC.region ?_
  refine WL.y (Yl.assign rfl) rfl ?_
  refine WL.nil ?_
  refine WC.seq ?_
  refine WC.seq ?_
  refine WC.region ?_
  refine WL.y (Yl.move rfl) rfl ?_
  refine WL.y (Yl.len un64 rfl) rfl ?_
  refine WL.y (Yl.move rfl) rfl ?_
  refine WL.nil ?_
  refine WC.block ?_
  refine WC.view (fun w h => h.addNil 24 5) ?_
  refine WC.loop (α := Nat × (Option Addr × Nat)) (fun s => [(0, .int .u8 d), (1, .slice al l.length cl), (2, .int .u8 a), (3, .int .u64 now), (9, .slice s.2.1 ((l.take s.1).filter (ownQ a)).length s.2.2), (26, .slice al l.length cl), (27, .int .i64 (l.length : Int)), (28, .int .i64 (s.1 : Int))]) (fun s => [rdR (.slice al l.length cl) 5 l.length (vcs ruV l), ownR (.slice s.2.1 ((l.take s.1).filter (ownQ a)).length s.2.2) 24 5 ((l.take s.1).filter (ownQ a)).length (vcs ruV ((l.take s.1).filter (ownQ a)))]) (fun s => s.1 ≤ l.length) (fun s => l.length - s.1) (0, (none, 0)) (Nat.zero_le _) ⟨(by repeat (first | exact Sub.nil | refine Sub.cons rfl ?_)), _, (by repeat (first | exact TakeL.nil | (apply TakeL.cons; · repeat (first | exact Take1.head | apply Take1.tail))))⟩ ?_
  rintro ⟨k, ao9, c9⟩ hk
  dsimp only at hk ⊢
  have hfl := fil_len (ownQ a) l k
  refine WC.seq ?_
  refine WC.region ?_
  refine WL.y (Yl.lss rfl rfl) rfl ?_
  refine WL.nil ?_
  refine WC.seq ?_
  refine WC.condD rfl (fun g29 => ?_) (fun g29 => ?_)
  · refine WC.skip ?_
    refine WC.seq ?_
    refine WC.block ?_
    refine WC.seq ?_
    refine WC.region ?_
    have hkl : k < l.length := by omega
    obtain ⟨x, hx0⟩ : ∃ x, l[k]? = some x := ⟨_, List.getElem?_eq_getElem hkl⟩
    have hxo := hl.get hx0
    have hnx := fil_next (q := ownQ a) hx0
    have hfl2 := fil_len (ownQ a) l (k + 1)
    refine WL.y (Yl.index un64 sz24 rfl rfl (Reads.of (r := rdR (.slice al l.length cl) 5 l.length (vcs ruV l)) RdOf.rd' (by repeat (first | exact Take1.head | apply Take1.tail))) rfl (by omega)) rfl ?_
    refine WL.y (Yl.loadV (j := k) (u := x) vtU hl rfl (Reads.of (r := rdR (.slice al l.length cl) 5 l.length (vcs ruV l)) RdOf.rd' (by repeat (first | exact Take1.head | apply Take1.tail))) rfl hx0) rfl ?_
    refine WL.to (To.alloc (cs := Ru.zero.cells) zr24 rfl) rfl ?_
    intro b11
    refine WL.sto (Sto.agg sz24 rfl rfl (by repeat (first | exact Take1.head | apply Take1.tail)) (Ru.ones _) (Ru.len x) (by rfl) (Ru.all Ru.zero x.cells (Ru.len x))) (fun _ h => nomatch h) ?_
    refine WL.nil ?_
    refine WC.seq ?_
    refine WC.region ?_
    refine WL.y (Yl.field fo24_0 rfl) rfl ?_
    refine WL.y (Yl.load on5 rfl (by repeat (first | exact Take1.head | apply Take1.tail)) (by rfl)) rfl ?_
    refine WL.y (Yl.move rfl) rfl ?_
    refine WL.y (Yl.eql rfl rfl) rfl ?_
    refine WL.y (Yl.move rfl) rfl ?_
    refine WL.both (t := 36) rfl (fun g36 => ?_) (fun g36 => ?_)
    · refine WL.off rfl rfl rfl rfl ?_
      refine WL.off rfl rfl rfl rfl ?_
      refine WL.off rfl rfl rfl rfl ?_
      refine WL.y (Yl.pickT rfl rfl) rfl ?_
      refine WL.nil ?_
      refine WC.condT rfl (by first | rfl | (simp; done) | (simp; omega)) ?_
      have hsel : ownQ a x = true := by unfold ownQ; simp_all
      rw [hsel, if_pos rfl] at hnx
      have hn1 : ((l.take (k + 1)).filter (ownQ a)).length = ((l.take k).filter (ownQ a)).length + 1 := by rw [hnx, List.length_append]; rfl
      refine WC.region ?_
      refine WL.y (Yl.move rfl) rfl ?_
      refine WL.y (Yl.loadN ag24 rfl (by repeat (first | exact Take1.head | apply Take1.tail)) (by rfl) (Ru.call x)) rfl ?_
      refine WL.to (To.buildSlice (vs := [.agg x.cells.toArray]) un64 zs24 rfl rfl (by simp [Value.cells, Ru.cells]) (by decide) (by decide)) rfl ?_
      intro b43
      rw [flat1]
      refine WL.to (To.append sl64 rfl rfl (by repeat (first | exact Take1.head | apply Take1.tail)) (Reads.of (rdRu hxo) (by repeat (first | exact Take1.head | apply Take1.tail))) (Ru.ones x) (show ((l.take k).filter (ownQ a)).length + 1 = ((l.take (k + 1)).filter (ownQ a)).length by omega) (show vcs ruV ((l.take k).filter (ownQ a)) ++ x.cells = vcs ruV ((l.take (k + 1)).filter (ownQ a)) by rw [hnx, vcs_app, vcs_one]; rfl) (by unfold maxLen; omega) (by omega)) rfl ?_
      rintro ⟨⟨ao44, c44⟩, hc44⟩
      dsimp only at hc44 ⊢
      refine WL.y (Yl.assign rfl) rfl ?_
      refine WL.nil ?_
      refine WC.region ?_
      refine WL.y (Yl.add rfl rfl (IntWalk.i64_in _ (by omega))) rfl ?_
      refine WL.y (Yl.move rfl) rfl ?_
      refine WL.nil ?_
      exact ⟨rfl, (k + 1, ao44, c44), by dsimp only; omega, by dsimp only; omega, (by repeat (first | exact Sub.nil | refine Sub.cons rfl ?_)), _, (by repeat (first | exact TakeL.nil | (apply TakeL.cons; · repeat (first | exact Take1.head | apply Take1.tail))))⟩
    · refine WL.on rfl rfl ?_
      refine WL.y (Yl.field fo24_0 rfl) rfl ?_
      refine WL.on rfl rfl ?_
      refine WL.y (Yl.load on5 rfl (by repeat (first | exact Take1.head | apply Take1.tail)) (by rfl)) rfl ?_
      refine WL.on rfl rfl ?_
      refine WL.y (Yl.eql rfl rfl) rfl ?_
      refine WL.y (Yl.pickF rfl rfl) rfl ?_
      refine WL.nil ?_
      refine WC.cond rfl (fun g40 => ?_) (fun g40 => ?_)
      · have hsel : ownQ a x = true := by unfold ownQ; simp_all
        rw [hsel, if_pos rfl] at hnx
        have hn1 : ((l.take (k + 1)).filter (ownQ a)).length = ((l.take k).filter (ownQ a)).length + 1 := by rw [hnx, List.length_append]; rfl
        refine WC.region ?_
        refine WL.y (Yl.move rfl) rfl ?_
        refine WL.y (Yl.loadN ag24 rfl (by repeat (first | exact Take1.head | apply Take1.tail)) (by rfl) (Ru.call x)) rfl ?_
        refine WL.to (To.buildSlice (vs := [.agg x.cells.toArray]) un64 zs24 rfl rfl (by simp [Value.cells, Ru.cells]) (by decide) (by decide)) rfl ?_
        intro b43
        rw [flat1]
        refine WL.to (To.append sl64 rfl rfl (by repeat (first | exact Take1.head | apply Take1.tail)) (Reads.of (rdRu hxo) (by repeat (first | exact Take1.head | apply Take1.tail))) (Ru.ones x) (show ((l.take k).filter (ownQ a)).length + 1 = ((l.take (k + 1)).filter (ownQ a)).length by omega) (show vcs ruV ((l.take k).filter (ownQ a)) ++ x.cells = vcs ruV ((l.take (k + 1)).filter (ownQ a)) by rw [hnx, vcs_app, vcs_one]; rfl) (by unfold maxLen; omega) (by omega)) rfl ?_
        rintro ⟨⟨ao44, c44⟩, hc44⟩
        dsimp only at hc44 ⊢
        refine WL.y (Yl.assign rfl) rfl ?_
        refine WL.nil ?_
        refine WC.region ?_
        refine WL.y (Yl.add rfl rfl (IntWalk.i64_in _ (by omega))) rfl ?_
        refine WL.y (Yl.move rfl) rfl ?_
        refine WL.nil ?_
        exact ⟨rfl, (k + 1, ao44, c44), by dsimp only; omega, by dsimp only; omega, (by repeat (first | exact Sub.nil | refine Sub.cons rfl ?_)), _, (by repeat (first | exact TakeL.nil | (apply TakeL.cons; · repeat (first | exact Take1.head | apply Take1.tail))))⟩
      · refine WC.skip ?_
        refine WC.region ?_
        refine WL.y (Yl.add rfl rfl (IntWalk.i64_in _ (by omega))) rfl ?_
        refine WL.y (Yl.move rfl) rfl ?_
        refine WL.nil ?_
        have hsel : ownQ a x = false := by unfold ownQ; simp_all
        rw [hsel, if_neg (by simp), List.append_nil] at hnx
        exact ⟨rfl, (k + 1, ao9, c9), by dsimp only; omega, by dsimp only; omega, by dsimp only; rw [hnx]; exact (by repeat (first | exact Sub.nil | refine Sub.cons rfl ?_)), _, by dsimp only; rw [hnx]; exact (by repeat (first | exact TakeL.nil | (apply TakeL.cons; · repeat (first | exact Take1.head | apply Take1.tail))))⟩
  · refine WC.exit ?_
    refine WC.seq ?_
    refine WC.region ?_
    refine WL.y (Yl.move rfl) rfl ?_
    refine WL.y (Yl.move rfl) rfl ?_
    refine WL.callC (xs := [.tmp 46, .tmp 47]) (cap := []) rfl rfl en29 (by repeat (first | exact TakeL.nil | (apply TakeL.cons; · repeat (first | exact Take1.head | apply Take1.tail)))) (fun w hw => laidBad_any d _ hd w hw.left.here) rfl ?_
    rintro ⟨⟩ -
    refine WL.y (Yl.move rfl) rfl ?_
    refine WL.y (Yl.move rfl) rfl ?_
    refine WL.callC (xs := [.tmp 49, .tmp 50]) (cap := []) rfl rfl en29 (by repeat (first | exact TakeL.nil | (apply TakeL.cons; · repeat (first | exact Take1.head | apply Take1.tail)))) (fun w hw => laidBad_any d _ hd w hw.left.here) rfl ?_
    rintro ⟨⟩ -
    refine WL.y (Yl.assign rfl) rfl ?_
    refine WL.y (Yl.assign rfl) rfl ?_
    refine WL.nil ?_
    refine WC.seq ?_
    refine WC.seq ?_
    refine WC.region ?_
    refine WL.y (Yl.move rfl) rfl ?_
    refine WL.y (Yl.len un64 rfl) rfl ?_
    refine WL.y (Yl.gtr rfl rfl) rfl ?_
    refine WL.y (Yl.move rfl) rfl ?_
    refine WL.both (t := 55) rfl (fun g55 => ?_) (fun g55 => ?_)
    · refine WL.off rfl rfl rfl rfl ?_
      refine WL.off rfl rfl rfl rfl ?_
      refine WL.y (Yl.pickT rfl rfl) rfl ?_
      refine WL.y (Yl.move rfl) rfl ?_
      refine WL.off rfl rfl rfl rfl ?_
      refine WL.off rfl rfl rfl rfl ?_
      refine WL.y (Yl.pickT rfl rfl) rfl ?_
      refine WL.y (Yl.move rfl) rfl ?_
      refine WL.off rfl rfl rfl rfl ?_
      refine WL.off rfl rfl rfl rfl ?_
      refine WL.y (Yl.pickT rfl rfl) rfl ?_
      refine WL.nil ?_
      refine WC.condT rfl (by first | rfl | (simp; done) | (simp; omega)) ?_
      refine WC.seq ?_
      refine WC.region ?_
      refine WL.y (Yl.assign rfl) rfl ?_
      refine WL.nil ?_
      refine WC.ret ?_
      repeat (first | (with_reducible refine peelT ?_) | (with_reducible refine peelB ?_) | (with_reducible refine peelTX ?_) | (with_reducible refine peelBX ?_) | (with_reducible refine peelBN ?_) | (with_reducible refine peelBO rfl ?_))
      exact ret1 (.inr rfl) Try.results7 rfl fun w' h => ⟨(), trivial, rfl, h.sub (by repeat (first | exact TakeL.nil | (apply TakeL.cons; · repeat (first | exact Take1.head | apply Take1.tail))))⟩
    · refine WL.on rfl rfl ?_
      refine WL.y (Yl.move rfl) rfl ?_
      refine WL.on rfl rfl ?_
      refine WL.y (Yl.nilEq un33 rfl rfl) rfl ?_
      refine WL.know (t := 57) (b' := true) rfl (by first | rfl | (simp; done) | (simp; omega)) ?_
      refine WL.y (Yl.pickF rfl rfl) rfl ?_
      refine WL.y (Yl.move rfl) rfl ?_
      refine WL.off rfl rfl rfl rfl ?_
      refine WL.off rfl rfl rfl rfl ?_
      refine WL.y (Yl.pickT rfl rfl) rfl ?_
      refine WL.y (Yl.move rfl) rfl ?_
      refine WL.off rfl rfl rfl rfl ?_
      refine WL.off rfl rfl rfl rfl ?_
      refine WL.y (Yl.pickT rfl rfl) rfl ?_
      refine WL.nil ?_
      refine WC.condT rfl (by first | rfl | (simp; done) | (simp; omega)) ?_
      refine WC.seq ?_
      refine WC.region ?_
      refine WL.y (Yl.assign rfl) rfl ?_
      refine WL.nil ?_
      refine WC.ret ?_
      repeat (first | (with_reducible refine peelT ?_) | (with_reducible refine peelB ?_) | (with_reducible refine peelTX ?_) | (with_reducible refine peelBX ?_) | (with_reducible refine peelBN ?_) | (with_reducible refine peelBO rfl ?_))
      exact ret1 (.inr rfl) Try.results7 rfl fun w' h => ⟨(), trivial, rfl, h.sub (by repeat (first | exact TakeL.nil | (apply TakeL.cons; · repeat (first | exact Take1.head | apply Take1.tail))))⟩
set_option maxRecDepth 100000 in
set_option maxHeartbeats 1000000 in
theorem apartGood_any (d : Int) (v : Value) (l : List Ru) (a now : Int) (hd : telU d = true) (hl : UOk l) (hln : l.length ≤ 17592186044416) (ha : 0 ≤ a) (hn : 0 ≤ now ∧ now < 18446744073709551616) (w : World) (hw : OK w (fpL [rdR v 5 l.length (vcs ruV l)]) [rdR v 5 l.length (vcs ruV l)] w) :
    Fn Try.prog 7 [.int .u8 d, v, .int .u8 a, .int .u64 now] [rdR v 5 l.length (vcs ruV l)] w (fun _ : Unit => True) (fun _ => .bool true) (fun _ => []) := by
  obtain ⟨al, cl, rfl, hcl, hml⟩ := (hw.get .head : Rd _ _ _ _ _).form
  refine enterF Try.func7 rfl Try.ntmps7 rfl hw ?_
  refine WC.seq ?_
  refine WC.region ?_
  refine WL.y (Yl.assign rfl) rfl ?_
  refine WL.nil ?_
  refine WC.seq ?_
  refine WC.seq ?_
  refine WC.region ?_
  refine WL.callC (xs := []) (cap := []) rfl rfl en8 (by repeat (first | exact TakeL.nil | (apply TakeL.cons; · repeat (first | exact Take1.head | apply Take1.tail)))) (fun w hw => known_any w hw.left.here) rfl ?_
  rintro ⟨⟩ -
  refine WL.y (Yl.not rfl) rfl ?_
  refine WL.know (t := 25) (b' := false) rfl (by first | rfl | (simp; done) | (simp; omega)) ?_
  refine WL.nil ?_
  refine WC.condF rfl (by first | rfl | (simp; done) | (simp; omega)) ?_
  refine WC.skip ?_
  refine WC.seq ?_
  refine WC.region ?_
  refine WL.y (Yl.assign rfl) rfl ?_
  refine WL.nil ?_
  refine WC.seq ?_
  refine WC.seq ?_
  refine WC.region ?_
  refine WL.y (Yl.move rfl) rfl ?_
  refine WL.y (Yl.len un64 rfl) rfl ?_
  refine WL.y (Yl.move rfl) rfl ?_
  refine WL.nil ?_
  refine WC.block ?_
  refine WC.view (fun w h => h.addNil 24 5) ?_
  refine WC.loop (α := Nat × (Option Addr × Nat)) (fun s => [(0, .int .u8 d), (1, .slice al l.length cl), (2, .int .u8 a), (3, .int .u64 now), (9, .slice s.2.1 ((l.take s.1).filter (ownQ a)).length s.2.2), (26, .slice al l.length cl), (27, .int .i64 (l.length : Int)), (28, .int .i64 (s.1 : Int))]) (fun s => [rdR (.slice al l.length cl) 5 l.length (vcs ruV l), ownR (.slice s.2.1 ((l.take s.1).filter (ownQ a)).length s.2.2) 24 5 ((l.take s.1).filter (ownQ a)).length (vcs ruV ((l.take s.1).filter (ownQ a)))]) (fun s => s.1 ≤ l.length) (fun s => l.length - s.1) (0, (none, 0)) (Nat.zero_le _) ⟨(by repeat (first | exact Sub.nil | refine Sub.cons rfl ?_)), _, (by repeat (first | exact TakeL.nil | (apply TakeL.cons; · repeat (first | exact Take1.head | apply Take1.tail))))⟩ ?_
  rintro ⟨k, ao9, c9⟩ hk
  dsimp only at hk ⊢
  have hfl := fil_len (ownQ a) l k
  refine WC.seq ?_
  refine WC.region ?_
  refine WL.y (Yl.lss rfl rfl) rfl ?_
  refine WL.nil ?_
  refine WC.seq ?_
  refine WC.condD rfl (fun g29 => ?_) (fun g29 => ?_)
  · refine WC.skip ?_
    refine WC.seq ?_
    refine WC.block ?_
    refine WC.seq ?_
    refine WC.region ?_
    have hkl : k < l.length := by omega
    obtain ⟨x, hx0⟩ : ∃ x, l[k]? = some x := ⟨_, List.getElem?_eq_getElem hkl⟩
    have hxo := hl.get hx0
    have hnx := fil_next (q := ownQ a) hx0
    have hfl2 := fil_len (ownQ a) l (k + 1)
    refine WL.y (Yl.index un64 sz24 rfl rfl (Reads.of (r := rdR (.slice al l.length cl) 5 l.length (vcs ruV l)) RdOf.rd' (by repeat (first | exact Take1.head | apply Take1.tail))) rfl (by omega)) rfl ?_
    refine WL.y (Yl.loadV (j := k) (u := x) vtU hl rfl (Reads.of (r := rdR (.slice al l.length cl) 5 l.length (vcs ruV l)) RdOf.rd' (by repeat (first | exact Take1.head | apply Take1.tail))) rfl hx0) rfl ?_
    refine WL.to (To.alloc (cs := Ru.zero.cells) zr24 rfl) rfl ?_
    intro b11
    refine WL.sto (Sto.agg sz24 rfl rfl (by repeat (first | exact Take1.head | apply Take1.tail)) (Ru.ones _) (Ru.len x) (by rfl) (Ru.all Ru.zero x.cells (Ru.len x))) (fun _ h => nomatch h) ?_
    refine WL.nil ?_
    refine WC.seq ?_
    refine WC.region ?_
    refine WL.y (Yl.field fo24_0 rfl) rfl ?_
    refine WL.y (Yl.load on5 rfl (by repeat (first | exact Take1.head | apply Take1.tail)) (by rfl)) rfl ?_
    refine WL.y (Yl.move rfl) rfl ?_
    refine WL.y (Yl.eql rfl rfl) rfl ?_
    refine WL.y (Yl.move rfl) rfl ?_
    refine WL.both (t := 36) rfl (fun g36 => ?_) (fun g36 => ?_)
    · refine WL.off rfl rfl rfl rfl ?_
      refine WL.off rfl rfl rfl rfl ?_
      refine WL.off rfl rfl rfl rfl ?_
      refine WL.y (Yl.pickT rfl rfl) rfl ?_
      refine WL.nil ?_
      refine WC.condT rfl (by first | rfl | (simp; done) | (simp; omega)) ?_
      have hsel : ownQ a x = true := by unfold ownQ; simp_all
      rw [hsel, if_pos rfl] at hnx
      have hn1 : ((l.take (k + 1)).filter (ownQ a)).length = ((l.take k).filter (ownQ a)).length + 1 := by rw [hnx, List.length_append]; rfl
      refine WC.region ?_
      refine WL.y (Yl.move rfl) rfl ?_
      refine WL.y (Yl.loadN ag24 rfl (by repeat (first | exact Take1.head | apply Take1.tail)) (by rfl) (Ru.call x)) rfl ?_
      refine WL.to (To.buildSlice (vs := [.agg x.cells.toArray]) un64 zs24 rfl rfl (by simp [Value.cells, Ru.cells]) (by decide) (by decide)) rfl ?_
      intro b43
      rw [flat1]
      refine WL.to (To.append sl64 rfl rfl (by repeat (first | exact Take1.head | apply Take1.tail)) (Reads.of (rdRu hxo) (by repeat (first | exact Take1.head | apply Take1.tail))) (Ru.ones x) (show ((l.take k).filter (ownQ a)).length + 1 = ((l.take (k + 1)).filter (ownQ a)).length by omega) (show vcs ruV ((l.take k).filter (ownQ a)) ++ x.cells = vcs ruV ((l.take (k + 1)).filter (ownQ a)) by rw [hnx, vcs_app, vcs_one]; rfl) (by unfold maxLen; omega) (by omega)) rfl ?_
      rintro ⟨⟨ao44, c44⟩, hc44⟩
      dsimp only at hc44 ⊢
      refine WL.y (Yl.assign rfl) rfl ?_
      refine WL.nil ?_
      refine WC.region ?_
      refine WL.y (Yl.add rfl rfl (IntWalk.i64_in _ (by omega))) rfl ?_
      refine WL.y (Yl.move rfl) rfl ?_
      refine WL.nil ?_
      exact ⟨rfl, (k + 1, ao44, c44), by dsimp only; omega, by dsimp only; omega, (by repeat (first | exact Sub.nil | refine Sub.cons rfl ?_)), _, (by repeat (first | exact TakeL.nil | (apply TakeL.cons; · repeat (first | exact Take1.head | apply Take1.tail))))⟩
    · refine WL.on rfl rfl ?_
      refine WL.y (Yl.field fo24_0 rfl) rfl ?_
      refine WL.on rfl rfl ?_
      refine WL.y (Yl.load on5 rfl (by repeat (first | exact Take1.head | apply Take1.tail)) (by rfl)) rfl ?_
      refine WL.on rfl rfl ?_
      refine WL.y (Yl.eql rfl rfl) rfl ?_
      refine WL.y (Yl.pickF rfl rfl) rfl ?_
      refine WL.nil ?_
      refine WC.cond rfl (fun g40 => ?_) (fun g40 => ?_)
      · have hsel : ownQ a x = true := by unfold ownQ; simp_all
        rw [hsel, if_pos rfl] at hnx
        have hn1 : ((l.take (k + 1)).filter (ownQ a)).length = ((l.take k).filter (ownQ a)).length + 1 := by rw [hnx, List.length_append]; rfl
        refine WC.region ?_
        refine WL.y (Yl.move rfl) rfl ?_
        refine WL.y (Yl.loadN ag24 rfl (by repeat (first | exact Take1.head | apply Take1.tail)) (by rfl) (Ru.call x)) rfl ?_
        refine WL.to (To.buildSlice (vs := [.agg x.cells.toArray]) un64 zs24 rfl rfl (by simp [Value.cells, Ru.cells]) (by decide) (by decide)) rfl ?_
        intro b43
        rw [flat1]
        refine WL.to (To.append sl64 rfl rfl (by repeat (first | exact Take1.head | apply Take1.tail)) (Reads.of (rdRu hxo) (by repeat (first | exact Take1.head | apply Take1.tail))) (Ru.ones x) (show ((l.take k).filter (ownQ a)).length + 1 = ((l.take (k + 1)).filter (ownQ a)).length by omega) (show vcs ruV ((l.take k).filter (ownQ a)) ++ x.cells = vcs ruV ((l.take (k + 1)).filter (ownQ a)) by rw [hnx, vcs_app, vcs_one]; rfl) (by unfold maxLen; omega) (by omega)) rfl ?_
        rintro ⟨⟨ao44, c44⟩, hc44⟩
        dsimp only at hc44 ⊢
        refine WL.y (Yl.assign rfl) rfl ?_
        refine WL.nil ?_
        refine WC.region ?_
        refine WL.y (Yl.add rfl rfl (IntWalk.i64_in _ (by omega))) rfl ?_
        refine WL.y (Yl.move rfl) rfl ?_
        refine WL.nil ?_
        exact ⟨rfl, (k + 1, ao44, c44), by dsimp only; omega, by dsimp only; omega, (by repeat (first | exact Sub.nil | refine Sub.cons rfl ?_)), _, (by repeat (first | exact TakeL.nil | (apply TakeL.cons; · repeat (first | exact Take1.head | apply Take1.tail))))⟩
      · refine WC.skip ?_
        refine WC.region ?_
        refine WL.y (Yl.add rfl rfl (IntWalk.i64_in _ (by omega))) rfl ?_
        refine WL.y (Yl.move rfl) rfl ?_
        refine WL.nil ?_
        have hsel : ownQ a x = false := by unfold ownQ; simp_all
        rw [hsel, if_neg (by simp), List.append_nil] at hnx
        exact ⟨rfl, (k + 1, ao9, c9), by dsimp only; omega, by dsimp only; omega, by dsimp only; rw [hnx]; exact (by repeat (first | exact Sub.nil | refine Sub.cons rfl ?_)), _, by dsimp only; rw [hnx]; exact (by repeat (first | exact TakeL.nil | (apply TakeL.cons; · repeat (first | exact Take1.head | apply Take1.tail))))⟩
  · refine WC.exit ?_
    refine WC.seq ?_
    have hkl : k = l.length := by omega
    subst hkl
    rw [List.take_length] at hfl ⊢
    obtain ⟨O, hO⟩ : ∃ O, l.filter (ownQ a) = O := ⟨_, rfl⟩
    rw [hO] at hfl ⊢
    have hOo : UOk O := by rw [← hO]; exact fun r hr => hl r (List.mem_filter.1 hr).1
    obtain ⟨P, hP⟩ : ∃ P, laidP d l = P := ⟨_, rfl⟩
    obtain ⟨Q, hQ⟩ : ∃ P, laidP d O = P := ⟨_, rfl⟩
    have hPo : P.ok := by rw [← hP]; exact laid_ok hd hl
    have hQo : Q.ok := by rw [← hQ]; exact laid_ok hd hOo
    refine WC.region ?_
    refine WL.y (Yl.move rfl) rfl ?_
    refine WL.y (Yl.move rfl) rfl ?_
    refine WL.callC (xs := [.tmp 46, .tmp 47]) (cap := []) rfl rfl en29 (by repeat (first | exact TakeL.nil | (apply TakeL.cons; · repeat (first | exact Take1.head | apply Take1.tail)))) (fun w hw => laid_any d (.slice al l.length cl) l hd hl (by omega) w (hw.src (A := []) (r := rdR (.slice al l.length cl) 5 l.length (vcs ruV l)) RdOf.rd' (by repeat (first | exact Take1.head | apply Take1.tail))) hw.left.here) rfl ?_
    rintro ⟨bp, aoP, caP⟩ -
    rw [hP]
    dsimp only [polR, List.cons_append, List.nil_append]
    refine WL.y (Yl.move rfl) rfl ?_
    refine WL.y (Yl.move rfl) rfl ?_
    refine WL.callC (xs := [.tmp 49, .tmp 50]) (cap := []) rfl rfl en29 (by repeat (first | exact TakeL.nil | (apply TakeL.cons; · repeat (first | exact Take1.head | apply Take1.tail)))) (fun w hw => laid_any d (.slice ao9 O.length c9) O hd hOo (by omega) w (hw.src (A := []) (r := ownR (.slice ao9 O.length c9) 24 5 O.length (vcs ruV O)) RdOf.own (by repeat (first | exact Take1.head | apply Take1.tail))) hw.left.here) rfl ?_
    rintro ⟨bq, aoQ, caQ⟩ -
    rw [hQ]
    dsimp only [polR, List.cons_append, List.nil_append]
    refine WL.y (Yl.assign rfl) rfl ?_
    refine WL.y (Yl.assign rfl) rfl ?_
    refine WL.nil ?_
    refine WC.seq ?_
    refine WC.seq ?_
    refine WC.region ?_
    refine WL.y (Yl.move rfl) rfl ?_
    refine WL.y (Yl.len un64 rfl) rfl ?_
    refine WL.y (Yl.gtr rfl rfl) rfl ?_
    refine WL.y (Yl.move rfl) rfl ?_
    refine WL.both (t := 55) rfl (fun g55 => ?_) (fun g55 => ?_)
    · refine WL.off rfl rfl rfl rfl ?_
      refine WL.off rfl rfl rfl rfl ?_
      refine WL.y (Yl.pickT rfl rfl) rfl ?_
      refine WL.y (Yl.move rfl) rfl ?_
      refine WL.off rfl rfl rfl rfl ?_
      refine WL.off rfl rfl rfl rfl ?_
      refine WL.y (Yl.pickT rfl rfl) rfl ?_
      refine WL.y (Yl.move rfl) rfl ?_
      refine WL.off rfl rfl rfl rfl ?_
      refine WL.off rfl rfl rfl rfl ?_
      refine WL.y (Yl.pickT rfl rfl) rfl ?_
      refine WL.nil ?_
      refine WC.condT rfl (by first | rfl | (simp; done) | (simp; omega)) ?_
      refine WC.seq ?_
      refine WC.region ?_
      refine WL.y (Yl.assign rfl) rfl ?_
      refine WL.nil ?_
      refine WC.ret ?_
      repeat (first | (with_reducible refine peelT ?_) | (with_reducible refine peelB ?_) | (with_reducible refine peelTX ?_) | (with_reducible refine peelBX ?_) | (with_reducible refine peelBN ?_) | (with_reducible refine peelBO rfl ?_))
      exact ret1 (.inr rfl) Try.results7 rfl fun w' h => ⟨(), trivial, rfl, h.sub (by repeat (first | exact TakeL.nil | (apply TakeL.cons; · repeat (first | exact Take1.head | apply Take1.tail))))⟩
    · refine WL.on rfl rfl ?_
      refine WL.y (Yl.move rfl) rfl ?_
      refine WL.on rfl rfl ?_
      refine WL.y (Yl.nilEq un33 rfl rfl) rfl ?_
      refine WL.know (t := 57) (b' := false) rfl (by first | rfl | (simp; done) | (simp; omega)) ?_
      refine WL.y (Yl.pickF rfl rfl) rfl ?_
      refine WL.y (Yl.move rfl) rfl ?_
      refine WL.on rfl rfl ?_
      refine WL.y (Yl.move rfl) rfl ?_
      refine WL.on rfl rfl ?_
      refine WL.y (Yl.nilEq un33 rfl rfl) rfl ?_
      refine WL.know (t := 61) (b' := false) rfl (by first | rfl | (simp; done) | (simp; omega)) ?_
      refine WL.y (Yl.pickF rfl rfl) rfl ?_
      refine WL.y (Yl.move rfl) rfl ?_
      refine WL.on rfl rfl ?_
      refine WL.y (Yl.move rfl) rfl ?_
      refine WL.on rfl rfl ?_
      refine WL.y (Yl.gtr rfl rfl) rfl ?_
      refine WL.y (Yl.pickF rfl rfl) rfl ?_
      refine WL.nil ?_
      refine WC.cond rfl (fun g66 => ?_) (fun g66 => ?_)
      · refine WC.seq ?_
        refine WC.region ?_
        refine WL.y (Yl.assign rfl) rfl ?_
        refine WL.nil ?_
        refine WC.ret ?_
        repeat (first | (with_reducible refine peelT ?_) | (with_reducible refine peelB ?_) | (with_reducible refine peelTX ?_) | (with_reducible refine peelBX ?_) | (with_reducible refine peelBN ?_) | (with_reducible refine peelBO rfl ?_))
        exact ret1 (.inr rfl) Try.results7 rfl fun w' h => ⟨(), trivial, rfl, h.sub (by repeat (first | exact TakeL.nil | (apply TakeL.cons; · repeat (first | exact Take1.head | apply Take1.tail))))⟩
      · refine WC.skip ?_
        refine WC.seq ?_
        have hl30 : l.length ≤ 30 := by have := g55; simp at this; omega
        have hn60 : now ≤ 1152921504606846976 := by have := g66; simp at this; omega
        obtain ⟨X, hX⟩ : ∃ X, (P.rl.find? fun r => fitU r a now) = X := ⟨_, rfl⟩
        have hXo : (X.getD Ru.zero).ok := by rw [← hX]; exact find_ok (UOk.of hPo)
        have hX2 : (Q.rl.find? fun r => fitU r a now) = X := by
          rw [← hX, ← hP, ← hQ, ← hO]
          exact apart_find hl30 a now
        obtain ⟨t1, u1⟩ := ask_find P a now
        obtain ⟨t2, u2⟩ := ask_find Q a now
        rw [hX] at t1 u1
        rw [hX2] at t2 u2
        have htt : (askU P a now).1 = (askU Q a now).1 := by
          rw [t1, t2, ← hP, ← hQ]
          cases X <;> rfl
        have hday : askU P a (now + 1440) = askU P a now := by rw [← hP]; exact ask_day a now
        obtain ⟨R1, hR1⟩ : ∃ R, askU P a now = R := ⟨_, rfl⟩
        obtain ⟨R2, hR2⟩ : ∃ R, askU Q a now = R := ⟨_, rfl⟩
        rw [hR1] at htt hday t1 u1
        rw [hR2] at htt t2 u2
        refine WC.region ?_
        refine WL.y (Yl.move rfl) rfl ?_
        refine WL.y (Yl.move rfl) rfl ?_
        refine WL.y (Yl.move rfl) rfl ?_
        refine WL.callC (xs := [.tmp 68, .tmp 69, .tmp 70]) (cap := []) rfl rfl en25 (by repeat (first | exact TakeL.nil | (apply TakeL.cons; · repeat (first | exact Take1.head | apply Take1.tail)))) (fun w hw => askK_any bp aoP caP P a now ha hn hPo w hw.left.here) rfl ?_
        rintro ⟨⟩ -
        rw [hR1]
        dsimp only [polR, List.cons_append, List.nil_append]
        refine WL.y (Yl.move rfl) rfl ?_
        refine WL.y (Yl.extract rfl rfl) rfl ?_
        refine WL.y (Yl.extract rfl rfl) rfl ?_
        refine WL.y (Yl.assign rfl) rfl ?_
        refine WL.y (Yl.assign rfl) rfl ?_
        refine WL.nil ?_
        refine WC.seq ?_
        refine WC.region ?_
        refine WL.y (Yl.move rfl) rfl ?_
        refine WL.y (Yl.move rfl) rfl ?_
        refine WL.y (Yl.move rfl) rfl ?_
        refine WL.callC (xs := [.tmp 75, .tmp 76, .tmp 77]) (cap := []) rfl rfl en25 (by repeat (first | exact TakeL.nil | (apply TakeL.cons; · repeat (first | exact Take1.head | apply Take1.tail)))) (fun w hw => askK_any bq aoQ caQ Q a now ha hn hQo w hw.left.here) rfl ?_
        rintro ⟨⟩ -
        rw [hR2]
        dsimp only [polR, List.cons_append, List.nil_append]
        refine WL.y (Yl.move rfl) rfl ?_
        refine WL.y (Yl.extract rfl rfl) rfl ?_
        refine WL.y (Yl.extract rfl rfl) rfl ?_
        refine WL.y (Yl.assign rfl) rfl ?_
        refine WL.y (Yl.assign rfl) rfl ?_
        refine WL.nil ?_
        refine WC.seq ?_
        refine WC.region ?_
        refine WL.y (Yl.move rfl) rfl ?_
        refine WL.y (Yl.move rfl) rfl ?_
        refine WL.y (Yl.move rfl) rfl ?_
        refine WL.y (Yl.add rfl rfl (u64_in _ (by omega))) rfl ?_
        refine WL.callC (xs := [.tmp 82, .tmp 83, .tmp 85]) (cap := []) rfl rfl en25 (by repeat (first | exact TakeL.nil | (apply TakeL.cons; · repeat (first | exact Take1.head | apply Take1.tail)))) (fun w hw => askK_any bp aoP caP P a (now + 1440) ha (by omega) hPo w hw.left.here) rfl ?_
        rintro ⟨⟩ -
        rw [hday]
        dsimp only [polR, List.cons_append, List.nil_append]
        refine WL.y (Yl.move rfl) rfl ?_
        refine WL.y (Yl.extract rfl rfl) rfl ?_
        refine WL.y (Yl.extract rfl rfl) rfl ?_
        refine WL.y (Yl.assign rfl) rfl ?_
        refine WL.y (Yl.assign rfl) rfl ?_
        refine WL.nil ?_
        refine WC.seq ?_
        refine WC.region ?_
        refine WL.y (Yl.move rfl) rfl ?_
        refine WL.y (Yl.move rfl) rfl ?_
        refine WL.callC (xs := [.tmp 90, .tmp 91]) (cap := []) rfl rfl en30 (by repeat (first | exact TakeL.nil | (apply TakeL.cons; · repeat (first | exact Take1.head | apply Take1.tail)))) (fun w hw => ruleK_any bp aoP caP P R1.2 hPo w hw.left.here) rfl ?_
        rintro ⟨⟩ -
        rw [u1]
        dsimp only [polR, ruV, List.cons_append, List.nil_append]
        refine WL.y (Yl.move rfl) rfl ?_
        refine WL.y (Yl.extract rfl rfl) rfl ?_
        refine WL.y (Yl.extract rfl rfl) rfl ?_
        refine WL.to (To.alloc (cs := Ru.zero.cells) zr24 rfl) rfl ?_
        intro b20
        refine WL.sto (Sto.agg sz24 rfl rfl (by repeat (first | exact Take1.head | apply Take1.tail)) (Ru.ones _) (Ru.len (X.getD Ru.zero)) (by rfl) (Ru.all Ru.zero (X.getD Ru.zero).cells (Ru.len _))) (fun _ h => nomatch h) ?_
        refine WL.y (Yl.assign rfl) rfl ?_
        refine WL.nil ?_
        refine WC.seq ?_
        refine WC.region ?_
        refine WL.y (Yl.move rfl) rfl ?_
        refine WL.y (Yl.move rfl) rfl ?_
        refine WL.callC (xs := [.tmp 96, .tmp 97]) (cap := []) rfl rfl en30 (by repeat (first | exact TakeL.nil | (apply TakeL.cons; · repeat (first | exact Take1.head | apply Take1.tail)))) (fun w hw => ruleK_any bq aoQ caQ Q R2.2 hQo w hw.left.here) rfl ?_
        rintro ⟨⟩ -
        rw [u2]
        dsimp only [polR, ruV, List.cons_append, List.nil_append]
        refine WL.y (Yl.move rfl) rfl ?_
        refine WL.y (Yl.extract rfl rfl) rfl ?_
        refine WL.y (Yl.extract rfl rfl) rfl ?_
        refine WL.to (To.alloc (cs := Ru.zero.cells) zr24 rfl) rfl ?_
        intro b22
        refine WL.sto (Sto.agg sz24 rfl rfl (by repeat (first | exact Take1.head | apply Take1.tail)) (Ru.ones _) (Ru.len (X.getD Ru.zero)) (by rfl) (Ru.all Ru.zero (X.getD Ru.zero).cells (Ru.len _))) (fun _ h => nomatch h) ?_
        refine WL.y (Yl.assign rfl) rfl ?_
        refine WL.nil ?_
        refine WC.seq ?_
        refine WC.region ?_
        refine WL.y (Yl.move rfl) rfl ?_
        refine WL.y (Yl.move rfl) rfl ?_
        refine WL.y (Yl.eql rfl rfl) rfl ?_
        refine WL.know (t := 103) (b' := true) rfl (decide_eq_true htt) ?_
        refine WL.y (Yl.move rfl) rfl ?_
        refine WL.on rfl rfl ?_
        refine WL.y (Yl.move rfl) rfl ?_
        refine WL.on rfl rfl ?_
        refine WL.y (Yl.move rfl) rfl ?_
        refine WL.on rfl rfl ?_
        refine WL.y (Yl.bEq un4 rfl rfl) rfl ?_
        refine WL.know (t := 107) (b' := true) rfl (by simp) ?_
        refine WL.y (Yl.pickT rfl rfl) rfl ?_
        refine WL.y (Yl.move rfl) rfl ?_
        refine WL.on rfl rfl ?_
        refine WL.y (Yl.loadN ag24 rfl (by repeat (first | exact Take1.head | apply Take1.tail)) (by rfl) (Ru.call (X.getD Ru.zero))) rfl ?_
        refine WL.on rfl rfl ?_
        refine WL.y (Yl.loadN ag24 rfl (by repeat (first | exact Take1.head | apply Take1.tail)) (by rfl) (Ru.call (X.getD Ru.zero))) rfl ?_
        refine WL.on rfl rfl ?_
        refine WL.y (Yl.eqA flRu rfl rfl hXo.fits hXo.fits) rfl ?_
        refine WL.know (t := 112) (b' := true) rfl (by rw [eqV_self]) ?_
        refine WL.y (Yl.pickT rfl rfl) rfl ?_
        refine WL.y (Yl.move rfl) rfl ?_
        refine WL.on rfl rfl ?_
        refine WL.y (Yl.move rfl) rfl ?_
        refine WL.on rfl rfl ?_
        refine WL.y (Yl.move rfl) rfl ?_
        refine WL.on rfl rfl ?_
        refine WL.y (Yl.eql rfl rfl) rfl ?_
        refine WL.know (t := 117) (b' := true) rfl (by simp) ?_
        refine WL.y (Yl.pickT rfl rfl) rfl ?_
        refine WL.y (Yl.move rfl) rfl ?_
        refine WL.on rfl rfl ?_
        refine WL.y (Yl.move rfl) rfl ?_
        refine WL.on rfl rfl ?_
        refine WL.y (Yl.move rfl) rfl ?_
        refine WL.on rfl rfl ?_
        refine WL.y (Yl.eql rfl rfl) rfl ?_
        refine WL.know (t := 122) (b' := true) rfl (by simp) ?_
        refine WL.y (Yl.pickT rfl rfl) rfl ?_
        refine WL.y (Yl.assign rfl) rfl ?_
        refine WL.nil ?_
        refine WC.ret ?_
        repeat (first | (with_reducible refine peelT ?_) | (with_reducible refine peelB ?_) | (with_reducible refine peelTX ?_) | (with_reducible refine peelBX ?_) | (with_reducible refine peelBN ?_) | (with_reducible refine peelBO rfl ?_))
        exact ret1 (.inr rfl) Try.results7 rfl fun w' h => ⟨(), trivial, rfl, h.sub (by repeat (first | exact TakeL.nil | (apply TakeL.cons; · repeat (first | exact Take1.head | apply Take1.tail))))⟩
end Go.Proofs.Ytnlibngncicobaa
