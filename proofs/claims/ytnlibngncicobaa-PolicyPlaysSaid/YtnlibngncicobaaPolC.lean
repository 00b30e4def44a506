/- A policy in memory; New, Insert, Remove, Note: the walks. -/
import Derived.Test.YtnlibngncicobaaPolB
import Derived.Test.YtnlibngncicobaaLibBu
namespace Go.Proofs.Ytnlibngncicobaa
open Go Go.RowKit
def Po.cells (p : Po) (v : Value) : List Value := .int .u8 p.df :: v :: (ints .u64 p.la ++ p.no.map Value.bool)
def polR (b : Nat) (ao : Option Addr) (ca : Nat) (p : Po) : List Res := [blkR b 80 (p.cells (.slice ao p.rl.length ca)), rdR (.slice ao p.rl.length ca) 5 p.rl.length (vcs ruV p.rl)]
structure Po.sz (p : Po) : Prop where
  la : p.la.length = 8
  no : p.no.length = 8
theorem Po.ok.sz {p : Po} (h : p.ok) : p.sz := ⟨h.la, h.no⟩
theorem Po.len {p : Po} (h : p.sz) (v : Value) : (p.cells v).length = 18 := by simp [Po.cells, ints_length, h.la, h.no]
theorem Po.atL {p : Po} (h : p.sz) (v : Value) {j : Nat} (hj : j < 8) : (p.cells v)[0 + 2 + j * 1]? = some (.int .u64 (p.la.getD j 0)) := by
  have e : 0 + 2 + j * 1 = (j + 1) + 1 := by omega
  rw [e]
  unfold Po.cells
  rw [List.getElem?_cons_succ, List.getElem?_cons_succ, List.getElem?_append_left (by rw [ints_length, h.la]; omega)]
  unfold ints
  rw [List.getElem?_map, getD_of (show j < p.la.length by rw [h.la]; exact hj)]
  rfl
theorem Po.atN {p : Po} (h : p.sz) (v : Value) {j : Nat} (hj : j < 8) : (p.cells v)[0 + 10 + j * 1]? = some (.bool (p.no.getD j false)) := by
  have e : 0 + 10 + j * 1 = (8 + j + 1) + 1 := by omega
  rw [e]
  unfold Po.cells
  rw [List.getElem?_cons_succ, List.getElem?_cons_succ, List.getElem?_append_right (by rw [ints_length, h.la]; omega), ints_length, h.la, Nat.add_sub_cancel_left, List.getElem?_map]
  have : p.no[j]? = some (p.no.getD j false) := by
    rw [List.getElem?_eq_getElem (show j < p.no.length by rw [h.no]; exact hj)]
    simp [List.getD, List.getElem?_eq_getElem (show j < p.no.length by rw [h.no]; exact hj)]
  rw [this]
  rfl
theorem Po.setL {p : Po} (h : p.sz) (v : Value) {j : Nat} (hj : j < 8) (x : Int) : (p.cells v).set (0 + 2 + j * 1) (.int .u64 x) = ({ p with la := p.la.set j x } : Po).cells v := by
  have e : 0 + 2 + j * 1 = (j + 1) + 1 := by omega
  rw [e]
  unfold Po.cells
  rw [List.set_cons_succ, List.set_cons_succ, List.set_append_left _ _ (by rw [ints_length, h.la]; omega)]
  simp [ints, List.map_set]
theorem Po.setN {p : Po} (h : p.sz) (v : Value) {j : Nat} (hj : j < 8) (x : Bool) : (p.cells v).set (0 + 10 + j * 1) (.bool x) = ({ p with no := p.no.set j x } : Po).cells v := by
  have e : 0 + 10 + j * 1 = (8 + j + 1) + 1 := by omega
  rw [e]
  unfold Po.cells
  rw [List.set_cons_succ, List.set_cons_succ, List.set_append_right _ _ (by rw [ints_length, h.la]; omega), ints_length, h.la, Nat.add_sub_cancel_left]
  simp [List.map_set]
theorem Po.ones (p : Po) (v : Value) (hv : v.oneCell' = true) : ∀ u ∈ p.cells v, u.oneCell' = true := by
  intro u hu
  unfold Po.cells at hu
  rcases List.mem_cons.1 hu with rfl | hu
  · rfl
  · rcases List.mem_cons.1 hu with rfl | hu
    · exact hv
    · rcases List.mem_append.1 hu with hu | hu
      · exact ints_one _ _ u hu
      · obtain ⟨x, _, rfl⟩ := List.mem_map.1 hu
        rfl
theorem Po.new_sz (d : Int) : (Po.new d).sz := ⟨rfl, rfl⟩
theorem UOk.of {p : Po} (h : p.ok) : UOk p.rl := fun r hr => (h.rl r hr).1
theorem insU_len {l : List Ru} {i : Nat} (r : Ru) (h : i ≤ l.length) : (insU l i r).length = l.length + 1 := by
  unfold insU
  rw [List.length_append, List.length_take, List.length_cons, List.length_drop]
  omega
def insP (p : Po) (z : Int) (r : Ru) : Po := if insE p z r = 0 then { p with rl := insU p.rl z.toNat r } else p
theorem insE_may {p : Po} {z : Int} {r : Ru} (h : mayU r = false) : insE p z r = 2 ∧ insP p z r = p := by
  have e : insE p z r = 2 := by unfold insE; rw [h]; rfl
  exact ⟨e, by unfold insP; rw [e]; rfl⟩
theorem insE_at {p : Po} {z : Int} {r : Ru} (h : mayU r = true) (hz : z < 0 ∨ (p.rl.length : Int) < z) : insE p z r = 4 ∧ insP p z r = p := by
  have e : insE p z r = 4 := by unfold insE; rw [h, if_neg (by simp), if_pos hz]
  exact ⟨e, by unfold insP; rw [e]; rfl⟩
theorem insE_full {p : Po} {z : Int} {r : Ru} (h : mayU r = true) (hz : ¬ (z < 0 ∨ (p.rl.length : Int) < z)) (hl : p.rl.length = 64) : insE p z r = 7 ∧ insP p z r = p := by
  have e : insE p z r = 7 := by unfold insE; rw [h, if_neg (by simp), if_neg hz, if_pos hl]
  exact ⟨e, by unfold insP; rw [e]; rfl⟩
theorem insE_ok {p : Po} {z : Int} {r : Ru} (h : mayU r = true) (hz : ¬ (z < 0 ∨ (p.rl.length : Int) < z)) (hl : ¬ p.rl.length = 64) : insE p z r = 0 ∧ insP p z r = { p with rl := insU p.rl z.toNat r } := by
  have e : insE p z r = 0 := by unfold insE; rw [h, if_neg (by simp), if_neg hz, if_neg hl]
  exact ⟨e, by unfold insP; rw [e]; rfl⟩
theorem Po.ok.ins {p : Po} (h : p.ok) {z : Int} {r : Ru} (hr : r.ok) : (insP p z r).ok := by
  unfold insP
  split
  · rename_i h0
    have hm : mayU r = true := by
      cases hm : mayU r
      · rw [(insE_may (p := p) (z := z) hm).1] at h0; cases h0
      · rfl
    have hz : ¬ (z < 0 ∨ (p.rl.length : Int) < z) := fun hz => by rw [(insE_at hm hz).1] at h0; cases h0
    have hl : ¬ p.rl.length = 64 := fun hl => by rw [(insE_full hm hz hl).1] at h0; cases h0
    have hlen := h.len
    refine ⟨h.df, ?_, ?_, h.la, h.lar, h.no⟩
    · intro s hs
      unfold insU at hs
      rcases List.mem_append.1 hs with hs | hs
      · exact h.rl s (List.mem_of_mem_take hs)
      · rcases List.mem_cons.1 hs with rfl | hs
        · exact ⟨hr, hm⟩
        · exact h.rl s (List.mem_of_mem_drop hs)
    · show (insU p.rl z.toNat r).length ≤ 64
      rw [insU_len r (by omega)]
      omega
  · exact h
def remE (p : Po) (z : Int) : Int := if z < 0 ∨ (p.rl.length : Int) ≤ z then 4 else 0
def remP (p : Po) (z : Int) : Po := if z < 0 ∨ (p.rl.length : Int) ≤ z then p else { p with rl := delU p.rl z.toNat }
theorem Po.ok.rem {p : Po} (h : p.ok) (z : Int) : (remP p z).ok := by
  unfold remP
  split
  · exact h
  · have hlen := h.len
    refine ⟨h.df, ?_, ?_, h.la, h.lar, h.no⟩
    · intro s hs
      unfold delU at hs
      rcases List.mem_append.1 hs with hs | hs
      · exact h.rl s (List.mem_of_mem_take hs)
      · exact h.rl s (List.mem_of_mem_drop hs)
    · show (delU p.rl z.toNat).length ≤ 64
      have := delU_len (acc := p.rl) (i := z.toNat) (by omega)
      omega
theorem Po.ok.note {p : Po} (h : p.ok) {a now : Int} (hn : 0 ≤ now ∧ now < 18446744073709551616) : (noteU p a now).ok := by
  unfold noteU
  split
  · refine ⟨h.df, h.rl, h.len, ?_, ?_, ?_⟩
    · show (p.la.set a.toNat now).length = 8
      rw [List.length_set, h.la]
    · intro x hx
      rcases List.mem_or_eq_of_mem_set hx with hx | rfl
      · exact h.lar x hx
      · exact hn
    · show (p.no.set a.toNat true).length = 8
      rw [List.length_set, h.no]
  · exact h
theorem Po.new_ok {d : Int} (h : telU d = true) : (Po.new d).ok := by
  unfold telU at h
  simp only [Bool.and_eq_true, decide_eq_true_eq] at h
  refine ⟨h, (fun _ hr => nomatch hr), Nat.zero_le _, rfl, ?_, rfl⟩
  intro x hx
  have := List.eq_of_mem_replicate hx
  omega
theorem newP_any (d : Int) (h : telU d = true) (w : World) (hw : OK w (fpL []) [] w) :
    Fn Try.prog 13 [.int .u8 d] [] w (fun _ : Nat => True) (fun b => .tuple #[.pointer (some ⟨b, 0, none⟩), .int .i64 0]) (fun b => polR b none 0 (Po.new d)) := by
  refine enterF Try.func13 rfl Try.ntmps13 rfl hw ?_
  refine WC.seq ?_
  refine WC.region ?_
  refine WL.y (Yl.assign rfl) rfl ?_
  refine WL.y (Yl.assign rfl) rfl ?_
  refine WL.nil ?_
  refine WC.seq ?_
  refine WC.seq ?_
  refine WC.region ?_
  refine WL.y (Yl.move rfl) rfl ?_
  refine WL.callC (xs := [.tmp 4]) (cap := []) rfl rfl en33 (by repeat (first | exact TakeL.nil | (apply TakeL.cons; · repeat (first | exact Take1.head | apply Take1.tail)))) (fun w hw => tells_any d w hw.left.here) rfl ?_
  rintro ⟨⟩ -
  refine WL.y (Yl.not rfl) rfl ?_
  refine WL.know (t := 6) (b' := false) rfl (by rw [h]; rfl) ?_
  refine WL.nil ?_
  refine WC.condF rfl (by first | rfl | (simp; done) | (simp; omega)) ?_
  refine WC.skip ?_
  refine WC.seq ?_
  refine WC.region ?_
  refine WL.y (Yl.move rfl) rfl ?_
  refine WL.y (Yl.build rfl (cs := (Po.new d).cells (.slice none 0 0)) (fun _ => by kernel_rfl)) rfl ?_
  refine WL.to (To.box (cs := (Po.new d).cells (.slice none 0 0)) rfl rfl) rfl ?_
  intro b9
  refine WL.y (Yl.assign rfl) rfl ?_
  refine WL.y (Yl.assign rfl) rfl ?_
  refine WL.nil ?_
  refine WC.ret ?_
  repeat (first | (with_reducible refine peelT ?_) | (with_reducible refine peelB ?_) | (with_reducible refine peelTX ?_) | (with_reducible refine peelBX ?_) | (with_reducible refine peelBN ?_) | (with_reducible refine peelBO rfl ?_))
  exact ret2 (.inr rfl) Try.results13 rfl rfl fun w' h => ⟨b9, trivial, rfl, ((h.addNil 24 5).readOnly (v := .slice none 0 0) .head).sub (by repeat (first | exact TakeL.nil | (apply TakeL.cons; · repeat (first | exact Take1.head | apply Take1.tail))))⟩
theorem newBad_any (d : Int) (h : telU d = false) (w : World) (hw : OK w (fpL []) [] w) :
    Fn Try.prog 13 [.int .u8 d] [] w (fun _ : Unit => True) (fun _ => .tuple #[.pointer none, .int .i64 2]) (fun _ => []) := by
  refine enterF Try.func13 rfl Try.ntmps13 rfl hw ?_
  refine WC.seq ?_
  refine WC.region ?_
  refine WL.y (Yl.assign rfl) rfl ?_
  refine WL.y (Yl.assign rfl) rfl ?_
  refine WL.nil ?_
  refine WC.seq ?_
  refine WC.seq ?_
  refine WC.region ?_
  refine WL.y (Yl.move rfl) rfl ?_
  refine WL.callC (xs := [.tmp 4]) (cap := []) rfl rfl en33 (by repeat (first | exact TakeL.nil | (apply TakeL.cons; · repeat (first | exact Take1.head | apply Take1.tail)))) (fun w hw => tells_any d w hw.left.here) rfl ?_
  rintro ⟨⟩ -
  refine WL.y (Yl.not rfl) rfl ?_
  refine WL.know (t := 6) (b' := true) rfl (by rw [h]; rfl) ?_
  refine WL.nil ?_
  refine WC.condT rfl (by first | rfl | (simp; done) | (simp; omega)) ?_
  refine WC.seq ?_
  refine WC.region ?_
  refine WL.y (Yl.assign rfl) rfl ?_
  refine WL.y (Yl.assign rfl) rfl ?_
  refine WL.nil ?_
  refine WC.ret ?_
  repeat (first | (with_reducible refine peelT ?_) | (with_reducible refine peelB ?_) | (with_reducible refine peelTX ?_) | (with_reducible refine peelBX ?_) | (with_reducible refine peelBN ?_) | (with_reducible refine peelBO rfl ?_))
  exact ret2 (.inr rfl) Try.results13 rfl rfl fun w' h => ⟨(), trivial, rfl, h.sub (by repeat (first | exact TakeL.nil | (apply TakeL.cons; · repeat (first | exact Take1.head | apply Take1.tail))))⟩
set_option maxRecDepth 100000 in
theorem insP_any (b : Nat) (ao : Option Addr) (ca : Nat) (p : Po) (z : Int) (r : Ru) (hp : p.ok) (hr : r.ok) (w : World) (hw : OK w (fpL (polR b ao ca p)) (polR b ao ca p) w) :
    Fn Try.prog 14 [.pointer (some ⟨b, 0, none⟩), .int .i64 z, ruV r] (polR b ao ca p) w (fun _ : Option Addr × Nat => True) (fun _ => .int .i64 (insE p z r)) (fun y => polR b y.1 y.2 (insP p z r)) := by
  have hro := UOk.of hp
  have hln := hp.len
  unfold polR at hw ⊢
  unfold ruV
  refine enterF Try.func14 rfl Try.ntmps14 rfl hw ?_
  refine WC.seq ?_
  refine WC.region ?_
  refine WL.to (To.box (cs := r.cells) rfl rfl) rfl ?_
  intro b5
  refine WL.y (Yl.assign rfl) rfl ?_
  refine WL.nil ?_
  refine WC.seq ?_
  refine WC.block ?_
  refine WC.seq ?_
  refine WC.region ?_
  refine WL.y (Yl.move rfl) rfl ?_
  refine WL.y (Yl.nilEq un33 rfl rfl) rfl ?_
  refine WL.know (t := 9) (b' := false) rfl (by first | rfl | (simp; done) | (simp; omega)) ?_
  refine WL.y (Yl.assign rfl) rfl ?_
  refine WL.nil ?_
  refine WC.condF rfl (by first | rfl | (simp; done) | (simp; omega)) ?_
  refine WC.seq ?_
  refine WC.region ?_
  refine WL.y (Yl.loadN ag24 rfl (by repeat (first | exact Take1.head | apply Take1.tail)) (by rfl) (by rfl)) rfl ?_
  refine WL.callC (xs := [.tmp 11]) (cap := []) rfl rfl en9 (by repeat (first | exact TakeL.nil | (apply TakeL.cons; · repeat (first | exact Take1.head | apply Take1.tail)))) (fun w hw => may_any r w hw.left.here) rfl ?_
  rintro ⟨⟩ -
  refine WL.y (Yl.not rfl) rfl ?_
  refine WL.y (Yl.assign rfl) rfl ?_
  refine WL.nil ?_
  refine WC.cond rfl (fun g10 => ?_) (fun g10 => ?_)
  · refine WC.seq ?_
    refine WC.region ?_
    refine WL.y (Yl.assign rfl) rfl ?_
    refine WL.nil ?_
    refine WC.ret ?_
    repeat (first | (with_reducible refine peelT ?_) | (with_reducible refine peelB ?_) | (with_reducible refine peelTX ?_) | (with_reducible refine peelBX ?_) | (with_reducible refine peelBN ?_) | (with_reducible refine peelBO rfl ?_))
    have hm : mayU r = false := by simpa using g10
    obtain ⟨e1, e2⟩ := insE_may (p := p) (z := z) hm
    rw [e1, e2]
    exact ret1 (.inr rfl) Try.results14 rfl fun w' h => ⟨(ao, ca), trivial, rfl, h.sub (by repeat (first | exact TakeL.nil | (apply TakeL.cons; · repeat (first | exact Take1.head | apply Take1.tail))))⟩
  · refine WC.seq ?_
    have hm : mayU r = true := by simpa using g10
    refine WC.region ?_
    refine WL.y (Yl.move rfl) rfl ?_
    refine WL.y (Yl.lss rfl rfl) rfl ?_
    refine WL.y (Yl.move rfl) rfl ?_
    refine WL.both (t := 17) rfl (fun g17 => ?_) (fun g17 => ?_)
    · refine WL.off rfl rfl rfl rfl ?_
      refine WL.off rfl rfl rfl rfl ?_
      refine WL.off rfl rfl rfl rfl ?_
      refine WL.off rfl rfl rfl rfl ?_
      refine WL.off rfl rfl rfl rfl ?_
      refine WL.off rfl rfl rfl rfl ?_
      refine WL.off rfl rfl rfl rfl ?_
      refine WL.y (Yl.pickT rfl rfl) rfl ?_
      refine WL.y (Yl.assign rfl) rfl ?_
      refine WL.nil ?_
      refine WC.condT rfl (by first | rfl | (simp; done) | (simp; omega)) ?_
      refine WC.seq ?_
      refine WC.region ?_
      refine WL.y (Yl.assign rfl) rfl ?_
      refine WL.nil ?_
      refine WC.ret ?_
      repeat (first | (with_reducible refine peelT ?_) | (with_reducible refine peelB ?_) | (with_reducible refine peelTX ?_) | (with_reducible refine peelBX ?_) | (with_reducible refine peelBN ?_) | (with_reducible refine peelBO rfl ?_))
      obtain ⟨e1, e2⟩ := insE_at (p := p) hm (.inl (by simpa using g17))
      rw [e1, e2]
      exact ret1 (.inr rfl) Try.results14 rfl fun w' h => ⟨(ao, ca), trivial, rfl, h.sub (by repeat (first | exact TakeL.nil | (apply TakeL.cons; · repeat (first | exact Take1.head | apply Take1.tail))))⟩
    · refine WL.on rfl rfl ?_
      refine WL.y (Yl.move rfl) rfl ?_
      refine WL.on rfl rfl ?_
      refine WL.y (Yl.move rfl) rfl ?_
      refine WL.on rfl rfl ?_
      refine WL.y (Yl.nilCheck rfl) rfl ?_
      refine WL.on rfl rfl ?_
      refine WL.y (Yl.field fo80_1 rfl) rfl ?_
      refine WL.on rfl rfl ?_
      refine WL.y (Yl.load on64 rfl (by repeat (first | exact Take1.head | apply Take1.tail)) (by rfl)) rfl ?_
      refine WL.on rfl rfl ?_
      refine WL.y (Yl.len un64 rfl) rfl ?_
      refine WL.on rfl rfl ?_
      refine WL.y (Yl.gtr rfl rfl) rfl ?_
      refine WL.y (Yl.pickF rfl rfl) rfl ?_
      refine WL.y (Yl.assign rfl) rfl ?_
      refine WL.nil ?_
      refine WC.condD rfl (fun g14 => ?_) (fun g14 => ?_)
      · refine WC.seq ?_
        refine WC.region ?_
        refine WL.y (Yl.assign rfl) rfl ?_
        refine WL.nil ?_
        refine WC.ret ?_
        repeat (first | (with_reducible refine peelT ?_) | (with_reducible refine peelB ?_) | (with_reducible refine peelTX ?_) | (with_reducible refine peelBX ?_) | (with_reducible refine peelBN ?_) | (with_reducible refine peelBO rfl ?_))
        obtain ⟨e1, e2⟩ := insE_at (p := p) hm (.inr (by simpa using g14))
        rw [e1, e2]
        exact ret1 (.inr rfl) Try.results14 rfl fun w' h => ⟨(ao, ca), trivial, rfl, h.sub (by repeat (first | exact TakeL.nil | (apply TakeL.cons; · repeat (first | exact Take1.head | apply Take1.tail))))⟩
      · refine WC.seq ?_
        have hz : ¬ (z < 0 ∨ (p.rl.length : Int) < z) := by
          have h1 : ¬ z < 0 := by simpa using g17
          have h2 : ¬ (p.rl.length : Int) < z := by simpa using g14
          omega
        refine WC.region ?_
        refine WL.y (Yl.move rfl) rfl ?_
        refine WL.y (Yl.nilCheck rfl) rfl ?_
        refine WL.y (Yl.field fo80_1 rfl) rfl ?_
        refine WL.y (Yl.load on64 rfl (by repeat (first | exact Take1.head | apply Take1.tail)) (by rfl)) rfl ?_
        refine WL.y (Yl.len un64 rfl) rfl ?_
        refine WL.y (Yl.eql rfl rfl) rfl ?_
        refine WL.y (Yl.assign rfl) rfl ?_
        refine WL.nil ?_
        refine WC.condD rfl (fun g26 => ?_) (fun g26 => ?_)
        · refine WC.seq ?_
          refine WC.region ?_
          refine WL.y (Yl.assign rfl) rfl ?_
          refine WL.nil ?_
          refine WC.ret ?_
          repeat (first | (with_reducible refine peelT ?_) | (with_reducible refine peelB ?_) | (with_reducible refine peelTX ?_) | (with_reducible refine peelBX ?_) | (with_reducible refine peelBN ?_) | (with_reducible refine peelBO rfl ?_))
          obtain ⟨e1, e2⟩ := insE_full (p := p) hm hz (by have := g26; omega)
          rw [e1, e2]
          exact ret1 (.inr rfl) Try.results14 rfl fun w' h => ⟨(ao, ca), trivial, rfl, h.sub (by repeat (first | exact TakeL.nil | (apply TakeL.cons; · repeat (first | exact Take1.head | apply Take1.tail))))⟩
        · refine WC.skip ?_
          refine WC.seq ?_
          have hl64 : ¬ p.rl.length = 64 := by have := g26; omega
          obtain ⟨e1, e2⟩ := insE_ok (p := p) hm hz hl64
          obtain ⟨i, hi⟩ : ∃ i : Nat, (i : Int) = z := ⟨z.toNat, by omega⟩
          subst hi
          rw [Int.toNat_natCast] at e2
          have hil : i ≤ p.rl.length := by omega
          have hlen := insU_len r hil
          refine WC.drawLast 12 (Hs := [blkR b 80 (p.cells (.slice ao p.rl.length ca)), rdR (.slice ao p.rl.length ca) 5 p.rl.length (vcs ruV p.rl), blkR b5 24 r.cells]) rfl rfl mixed (by kernel_rfl) ⟨_, (by repeat (first | exact TakeL.nil | (apply TakeL.cons; · repeat (first | exact Take1.head | apply Take1.tail))))⟩ ?_
          dsimp only [List.dropLast]
          refine WD.take 0 rfl (by kernel_rfl) (by kernel_rfl) (by kernel_rfl) rfl rfl (Yl.move rfl) rfl ?_
          refine WD.take 1 rfl (by kernel_rfl) (by kernel_rfl) (by kernel_rfl) rfl rfl (Yl.move rfl) rfl ?_
          refine WD.take 2 rfl (by kernel_rfl) (by kernel_rfl) (by kernel_rfl) rfl rfl (Yl.nilCheck rfl) rfl ?_
          refine WD.take 3 rfl (by kernel_rfl) (by kernel_rfl) (by kernel_rfl) rfl rfl (Yl.field fo80_1 rfl) rfl ?_
          refine WD.take 4 rfl (by kernel_rfl) (by kernel_rfl) (by kernel_rfl) rfl rfl (Yl.load on64 rfl (by repeat (first | exact Take1.head | apply Take1.tail)) (by rfl)) rfl ?_
          refine WD.take 6 rfl (by kernel_rfl) (by kernel_rfl) (by kernel_rfl) rfl rfl (Yl.move rfl) rfl ?_
          refine WD.take 7 rfl (by kernel_rfl) (by kernel_rfl) (by kernel_rfl) rfl rfl (Yl.loadN ag24 rfl (by repeat (first | exact Take1.head | apply Take1.tail)) (by rfl) (by rfl)) rfl ?_
          refine WD.two 5 8 (by kernel_rfl) ?_ ?_
          · refine WO.callC (xs := [.tmp 37]) (cap := []) rfl .no rfl rfl en36 (by repeat (first | exact TakeL.nil | (apply TakeL.cons; · repeat (first | exact Take1.head | apply Take1.tail)))) (fun w hw => cloneU_any (.slice ao p.rl.length ca) p.rl hro (by omega) w (hw.src (A := []) (r := rdR (.slice ao p.rl.length ca) 5 p.rl.length (vcs ruV p.rl)) RdOf.rd' (by repeat (first | exact Take1.head | apply Take1.tail))) hw.left.here) rfl (fun _ => ⟨_, (by repeat (first | exact TakeL.nil | (apply TakeL.cons; · repeat (first | exact Take1.head | apply Take1.tail))))⟩) ?_
            rintro ⟨a38, c38⟩ -
            dsimp only [List.cons_append, List.nil_append]
            refine WD.one 8 (by kernel_rfl) ?_
            refine WO.to rfl rfl .no (To.buildSlice (vs := [.agg r.cells.toArray]) un64 zs24 rfl rfl (by simp [Value.cells, Ru.cells]) (by decide) (by decide)) rfl (fun _ => ⟨_, (by repeat (first | exact TakeL.nil | (apply TakeL.cons; · repeat (first | exact Take1.head | apply Take1.tail))))⟩) ?_
            intro b41
            rw [flat1]
            refine WD.one 9 (by kernel_rfl) ?_
            refine WO.callC (xs := [.tmp 38, .tmp 39, .tmp 41]) (cap := []) rfl .no rfl rfl en35 (by repeat (first | exact TakeL.nil | (apply TakeL.cons; · repeat (first | exact Take1.head | apply Take1.tail)))) (fun w hw => insUr_any a38 c38 p.rl r hro hr i b41 (by omega) hil w hw.left.here) rfl (fun _ => ⟨_, (by repeat (first | exact TakeL.nil | (apply TakeL.cons; · repeat (first | exact Take1.head | apply Take1.tail))))⟩) ?_
            rintro ⟨a42, c42⟩ -
            dsimp only [List.cons_append, List.nil_append]
            rw [show p.rl.take i ++ r :: p.rl.drop i = insU p.rl i r from rfl, ← hlen]
            refine WD.take 10 rfl (by kernel_rfl) (by kernel_rfl) (by kernel_rfl) rfl rfl (Yl.nilCheck rfl) rfl ?_
            refine WD.take 11 rfl (by kernel_rfl) (by kernel_rfl) (by kernel_rfl) rfl rfl (Yl.field fo80_1 rfl) rfl ?_
            refine WD.done (by kernel_rfl) ?_
            refine ⟨_, (Sto.one sz64 rfl rfl (by repeat (first | exact Take1.head | apply Take1.tail)) rfl (by rfl) (by rfl)), ?_⟩
            refine WC.seq ?_
            refine WC.region ?_
            refine WL.y (Yl.assign rfl) rfl ?_
            refine WL.nil ?_
            refine WC.ret ?_
            repeat (first | (with_reducible refine peelT ?_) | (with_reducible refine peelB ?_) | (with_reducible refine peelTX ?_) | (with_reducible refine peelBX ?_) | (with_reducible refine peelBN ?_) | (with_reducible refine peelBO rfl ?_))
            rw [e1, e2]
            exact ret1 (.inr rfl) Try.results14 rfl fun w' h => ⟨(a42, c42), trivial, rfl, (h.readOnly (v := .slice a42 (insU p.rl i r).length c42) (by repeat (first | exact Take1.head | apply Take1.tail))).sub (by repeat (first | exact TakeL.nil | (apply TakeL.cons; · repeat (first | exact Take1.head | apply Take1.tail))))⟩
          · refine WO.to rfl rfl .no (To.buildSlice (vs := [.agg r.cells.toArray]) un64 zs24 rfl rfl (by simp [Value.cells, Ru.cells]) (by decide) (by decide)) rfl (fun _ => ⟨_, (by repeat (first | exact TakeL.nil | (apply TakeL.cons; · repeat (first | exact Take1.head | apply Take1.tail))))⟩) ?_
            intro b41
            rw [flat1]
            refine WD.one 5 (by kernel_rfl) ?_
            refine WO.callC (xs := [.tmp 37]) (cap := []) rfl .no rfl rfl en36 (by repeat (first | exact TakeL.nil | (apply TakeL.cons; · repeat (first | exact Take1.head | apply Take1.tail)))) (fun w hw => cloneU_any (.slice ao p.rl.length ca) p.rl hro (by omega) w (hw.src (A := []) (r := rdR (.slice ao p.rl.length ca) 5 p.rl.length (vcs ruV p.rl)) RdOf.rd' (by repeat (first | exact Take1.head | apply Take1.tail))) hw.left.here) rfl (fun _ => ⟨_, (by repeat (first | exact TakeL.nil | (apply TakeL.cons; · repeat (first | exact Take1.head | apply Take1.tail))))⟩) ?_
            rintro ⟨a38, c38⟩ -
            dsimp only [List.cons_append, List.nil_append]
            refine WD.one 9 (by kernel_rfl) ?_
            refine WO.callC (xs := [.tmp 38, .tmp 39, .tmp 41]) (cap := []) rfl .no rfl rfl en35 (by repeat (first | exact TakeL.nil | (apply TakeL.cons; · repeat (first | exact Take1.head | apply Take1.tail)))) (fun w hw => insUr_any a38 c38 p.rl r hro hr i b41 (by omega) hil w hw.left.here) rfl (fun _ => ⟨_, (by repeat (first | exact TakeL.nil | (apply TakeL.cons; · repeat (first | exact Take1.head | apply Take1.tail))))⟩) ?_
            rintro ⟨a42, c42⟩ -
            dsimp only [List.cons_append, List.nil_append]
            rw [show p.rl.take i ++ r :: p.rl.drop i = insU p.rl i r from rfl, ← hlen]
            refine WD.take 10 rfl (by kernel_rfl) (by kernel_rfl) (by kernel_rfl) rfl rfl (Yl.nilCheck rfl) rfl ?_
            refine WD.take 11 rfl (by kernel_rfl) (by kernel_rfl) (by kernel_rfl) rfl rfl (Yl.field fo80_1 rfl) rfl ?_
            refine WD.done (by kernel_rfl) ?_
            refine ⟨_, (Sto.one sz64 rfl rfl (by repeat (first | exact Take1.head | apply Take1.tail)) rfl (by rfl) (by rfl)), ?_⟩
            refine WC.seq ?_
            refine WC.region ?_
            refine WL.y (Yl.assign rfl) rfl ?_
            refine WL.nil ?_
            refine WC.ret ?_
            repeat (first | (with_reducible refine peelT ?_) | (with_reducible refine peelB ?_) | (with_reducible refine peelTX ?_) | (with_reducible refine peelBX ?_) | (with_reducible refine peelBN ?_) | (with_reducible refine peelBO rfl ?_))
            rw [e1, e2]
            exact ret1 (.inr rfl) Try.results14 rfl fun w' h => ⟨(a42, c42), trivial, rfl, (h.readOnly (v := .slice a42 (insU p.rl i r).length c42) (by repeat (first | exact Take1.head | apply Take1.tail))).sub (by repeat (first | exact TakeL.nil | (apply TakeL.cons; · repeat (first | exact Take1.head | apply Take1.tail))))⟩
end Go.Proofs.Ytnlibngncicobaa
