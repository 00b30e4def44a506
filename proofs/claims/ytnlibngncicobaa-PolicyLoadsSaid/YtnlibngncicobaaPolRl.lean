/- The document's policy: Load: the walk. -/
import Derived.Test.YtnlibngncicobaaPolV
namespace Go.Proofs.Ytnlibngncicobaa
open Go Go.RowKit
theorem iat {bs : List Int} {i : Nat} (h : i < bs.length) : (ints .u8 bs)[i]? = some (.int .u8 (bs.getD i 0)) := by
  unfold ints
  rw [List.getElem?_map, getD_of h]
  rfl
/-- The first so many rules. -/
def rlA (bs : List Int) (k : Nat) : List Ru := (List.range k).map fun j => rA bs (3 + 11 * j)
theorem rlA_len (bs : List Int) (k : Nat) : (rlA bs k).length = k := by simp [rlA]
theorem rlA_next (bs : List Int) (k : Nat) : rlA bs (k + 1) = rlA bs k ++ [rA bs (3 + 11 * k)] := by simp [rlA, List.range_succ]
theorem rA_ok {bs : List Int} (hB : Bytes bs) {i : Nat} (h : i + 10 < bs.length) : (rA bs i).ok := by
  have h0 := hB.getD (i := i) (by omega)
  have h3 := hB.getD (i := i + 3) (by omega)
  have h4 := hB.getD (i := i + 4) (by omega)
  have h7 := hB.getD (i := i + 7) (by omega)
  have h8 := hB.getD (i := i + 8) (by omega)
  have h9 := hB.getD (i := i + 9) (by omega)
  exact ⟨h0, ⟨by show 0 ≤ 256 * bs.getD (i + 3) 0 + bs.getD (i + 4) 0; omega, by show 256 * bs.getD (i + 3) 0 + bs.getD (i + 4) 0 < 65536; omega⟩, ⟨by show 0 ≤ 256 * bs.getD (i + 7) 0 + bs.getD (i + 8) 0; omega, by show 256 * bs.getD (i + 7) 0 + bs.getD (i + 8) 0 < 65536; omega⟩, h9⟩
theorem rlA_ok {bs : List Int} (hB : Bytes bs) {k : Nat} (h : 3 + 11 * k ≤ bs.length) : UOk (rlA bs k) := by
  intro r hr
  obtain ⟨j, hj, rfl⟩ := List.mem_map.1 hr
  have := List.mem_range.1 hj
  exact rA_ok hB (by omega)
def rldP (bs : List Int) : Po := if rOk bs then { Po.new (bs.getD 0 0) with rl := rLs bs } else Po.new 0
theorem rOk_is {bs : List Int} (h : rOk bs = true) : 3 ≤ bs.length ∧ 1 ≤ bs.getD 0 0 ∧ bs.getD 0 0 ≤ 3 ∧ bs.getD 1 0 ≤ 0 ∧ bs.getD 2 0 ≤ 64 ∧ (bs.length : Int) = 3 + 11 * bs.getD 2 0 ∧ ∀ j, j < (bs.getD 2 0).toNat → okA bs (3 + 11 * j) = true := by
  unfold rOk rHd telU at h
  simp only [Bool.and_eq_true, decide_eq_true_eq] at h
  obtain ⟨⟨⟨⟨⟨h1, h2, h3⟩, h4⟩, h5⟩, h6⟩, h7⟩ := h
  exact ⟨h1, h2, h3, h4, h5, h6, fun j hj => List.all_eq_true.1 h7 j (List.mem_range.2 hj)⟩
theorem rOk_no {bs : List Int} (h : ¬ (3 ≤ bs.length ∧ 1 ≤ bs.getD 0 0 ∧ bs.getD 0 0 ≤ 3 ∧ bs.getD 1 0 ≤ 0 ∧ bs.getD 2 0 ≤ 64 ∧ (bs.length : Int) = 3 + 11 * bs.getD 2 0)) : rOk bs = false ∧ rldP bs = Po.new 0 := by
  have e : rOk bs = false := by
    cases hh : rOk bs with
    | false => rfl
    | true =>
      obtain ⟨h1, h2, h3, h4, h5, h6, _⟩ := rOk_is hh
      exact absurd ⟨h1, h2, h3, h4, h5, h6⟩ h
  exact ⟨e, by unfold rldP; rw [e]; rfl⟩
theorem rOk_at {bs : List Int} {j : Nat} (hj : j < (bs.getD 2 0).toNat) (h : okA bs (3 + 11 * j) = false) : rOk bs = false ∧ rldP bs = Po.new 0 := by
  have e : rOk bs = false := by
    cases hh : rOk bs with
    | false => rfl
    | true =>
      obtain ⟨_, _, _, _, _, _, h7⟩ := rOk_is hh
      rw [h7 j hj] at h
      cases h
  exact ⟨e, by unfold rldP; rw [e]; rfl⟩
theorem okA_no {bs : List Int} {i : Nat} (h : ¬ (bs.getD (i + 1) 0 ≤ 0 ∧ bs.getD (i + 2) 0 ≤ 0 ∧ bs.getD (i + 5) 0 ≤ 0 ∧ bs.getD (i + 6) 0 ≤ 0 ∧ bs.getD (i + 10) 0 ≤ 1)) : okA bs i = false := by
  cases hh : okA bs i with
  | false => rfl
  | true =>
    unfold okA gA at hh
    simp only [Bool.and_eq_true, decide_eq_true_eq] at hh
    obtain ⟨⟨⟨⟨⟨h1, h2⟩, h3⟩, h4⟩, h5⟩, _⟩ := hh
    exact absurd ⟨by omega, by omega, by omega, by omega, by omega⟩ h
theorem okA_yes {bs : List Int} {i : Nat} (hB : Bytes bs) (hl : i + 10 < bs.length) (h : bs.getD (i + 1) 0 ≤ 0 ∧ bs.getD (i + 2) 0 ≤ 0 ∧ bs.getD (i + 5) 0 ≤ 0 ∧ bs.getD (i + 6) 0 ≤ 0 ∧ bs.getD (i + 10) 0 ≤ 1) : okA bs i = mayU (rA bs i) := by
  have h1 := hB.getD (i := i + 1) (by omega)
  have h2 := hB.getD (i := i + 2) (by omega)
  have h5 := hB.getD (i := i + 5) (by omega)
  have h6 := hB.getD (i := i + 6) (by omega)
  have : gA bs i = true := by
    unfold gA
    simp only [Bool.and_eq_true, decide_eq_true_eq]
    exact ⟨⟨⟨⟨by omega, by omega⟩, by omega⟩, by omega⟩, by omega⟩
  unfold okA
  rw [this, Bool.true_and]
theorem insE_end {p : Po} {r : Ru} (hl : p.rl.length < 64) : (insE p (p.rl.length : Int) r ≠ 0 → mayU r = false) ∧ (insE p (p.rl.length : Int) r = 0 → mayU r = true ∧ insP p (p.rl.length : Int) r = { p with rl := p.rl ++ [r] }) := by
  have hz : ¬ ((p.rl.length : Int) < 0 ∨ (p.rl.length : Int) < (p.rl.length : Int)) := by omega
  have hf : ¬ p.rl.length = 64 := by omega
  cases hm : mayU r with
  | false => exact ⟨fun _ => rfl, fun h => by rw [(insE_may (p := p) hm).1] at h; cases h⟩
  | true =>
    obtain ⟨e1, e2⟩ := insE_ok (p := p) hm hz hf
    refine ⟨fun h => absurd e1 h, fun _ => ⟨rfl, ?_⟩⟩
    rw [e2, Int.toNat_natCast]
    unfold insU
    rw [List.take_length, List.drop_length]
def pA (bs : List Int) (k : Nat) : Po := { Po.new (bs.getD 0 0) with rl := rlA bs k }
theorem Po.rall (p : Po) (v : Value) {cs : List Value} (h : cs.length = 18) (hp : p.sz) : cs.take 0 ++ p.rcells v ++ cs.drop (0 + 18) = p.rcells v := by
  rw [List.take_zero, List.nil_append, List.drop_of_length_le (by omega), List.append_nil]
set_option maxRecDepth 100000 in
set_option maxHeartbeats 1000000 in
theorem rload_any (xv : Value) (bs : List Int) (hB : Bytes bs) (hs : bs.length ≤ 1000000) (w : World) (hx : RdS w (fpL []) xv 1 bs.length (ints .u8 bs)) (hw : OK w (fpL []) [] w) :
    Fn Try.prog 28 [xv] [] w (fun _ : Option Addr × Nat => True) (fun y => .tuple #[.agg ((rldP bs).rcells (.slice y.1 (rldP bs).rl.length y.2)).toArray, .bool (rOk bs)]) (fun y => [rdR (.slice y.1 (rldP bs).rl.length y.2) 5 (rldP bs).rl.length (vcs ruV (rldP bs).rl)]) := by
  obtain ⟨al, cl, rfl, hcl, hml⟩ := hx.rd.form
  refine enterF Try.func28 rfl Try.ntmps28 rfl hw ?_
  refine WC.seq ?_
  refine WC.region ?_
  refine WL.to (To.alloc (cs := (Po.new 0).rcells (.slice none 0 0)) zr42 rfl) rfl ?_
  intro b2
  refine WL.y (Yl.assign rfl) rfl ?_
  refine WL.nil ?_
  refine WC.seq ?_
  refine WC.seq ?_
  refine WC.region ?_
  refine WL.y (Yl.move rfl) rfl ?_
  refine WL.y (Yl.len un55 rfl) rfl ?_
  refine WL.y (Yl.lss rfl rfl) rfl ?_
  refine WL.y (Yl.move rfl) rfl ?_
  refine WL.both (t := 10) rfl (fun g10 => ?_) (fun g10 => ?_)
  · refine WL.off rfl rfl rfl rfl ?_
    refine WL.off rfl rfl rfl rfl ?_
    refine WL.off rfl rfl rfl rfl ?_
    refine WL.off rfl rfl rfl rfl ?_
    refine WL.y (Yl.pickT rfl rfl) rfl ?_
    refine WL.y (Yl.move rfl) rfl ?_
    refine WL.off rfl rfl rfl rfl ?_
    refine WL.off rfl rfl rfl rfl ?_
    refine WL.off rfl rfl rfl rfl ?_
    refine WL.off rfl rfl rfl rfl ?_
    refine WL.y (Yl.pickT rfl rfl) rfl ?_
    refine WL.y (Yl.move rfl) rfl ?_
    refine WL.off rfl rfl rfl rfl ?_
    refine WL.off rfl rfl rfl rfl ?_
    refine WL.off rfl rfl rfl rfl ?_
    refine WL.off rfl rfl rfl rfl ?_
    refine WL.y (Yl.pickT rfl rfl) rfl ?_
    refine WL.y (Yl.move rfl) rfl ?_
    refine WL.off rfl rfl rfl rfl ?_
    refine WL.off rfl rfl rfl rfl ?_
    refine WL.off rfl rfl rfl rfl ?_
    refine WL.off rfl rfl rfl rfl ?_
    refine WL.y (Yl.pickT rfl rfl) rfl ?_
    refine WL.y (Yl.move rfl) rfl ?_
    refine WL.off rfl rfl rfl rfl ?_
    refine WL.off rfl rfl rfl rfl ?_
    refine WL.off rfl rfl rfl rfl ?_
    refine WL.off rfl rfl rfl rfl ?_
    refine WL.off rfl rfl rfl rfl ?_
    refine WL.off rfl rfl rfl rfl ?_
    refine WL.off rfl rfl rfl rfl ?_
    refine WL.off rfl rfl rfl rfl ?_
    refine WL.off rfl rfl rfl rfl ?_
    refine WL.y (Yl.pickT rfl rfl) rfl ?_
    refine WL.nil ?_
    refine WC.condT rfl (by first | rfl | (simp; done) | (simp; omega)) ?_
    refine WC.seq ?_
    have hno := rOk_no (bs := bs) (by first | (have := of_decide_eq_true g10; omega) | (have := of_decide_eq_true g16; omega) | (have := of_decide_eq_true g22; omega) | (have := of_decide_eq_true g28; omega) | (have := of_decide_eq_true g34; omega) | omega)
    refine WC.region ?_
    refine WL.y (Yl.build rfl (cs := (Po.new 0).rcells (.slice none 0 0)) (fun _ => by kernel_rfl)) rfl ?_
    refine WL.sto (Sto.agg sz42 rfl rfl (by repeat (first | exact Take1.head | apply Take1.tail)) (Po.rones _ _ rfl) rfl (by rfl) (show _ = (Po.new 0).rcells (.slice none 0 0) from rfl)) (fun _ h => nomatch h) ?_
    refine WL.y (Yl.assign rfl) rfl ?_
    refine WL.nil ?_
    refine WC.ret ?_
    repeat (first | (with_reducible refine peelT ?_) | (with_reducible refine peelB ?_) | (with_reducible refine peelTX ?_) | (with_reducible refine peelBX ?_) | (with_reducible refine peelBN ?_) | (with_reducible refine peelBO rfl ?_))
    first
    | (rw [e, e2]
       exact retC2 (cs := (pA bs k).rcells (.slice aoP (rlA bs k).length caP)) (.inr rfl) Try.results28 ag42 rfl rfl (by repeat (first | exact Take1.head | apply Take1.tail)) rfl fun w' h => ⟨(aoP, caP), trivial, rfl, h.sub (by repeat (first | exact TakeL.nil | (apply TakeL.cons; · repeat (first | exact Take1.head | apply Take1.tail))))⟩)
    | (rw [hno.1, hno.2]
       exact retC2 (cs := (Po.new 0).rcells (.slice none 0 0)) (.inr rfl) Try.results28 ag42 rfl rfl (by repeat (first | exact Take1.head | apply Take1.tail)) rfl fun w' h => ⟨(none, 0), trivial, rfl, ((h.addNil 27 5).readOnly (v := .slice none 0 0) .head).sub (by repeat (first | exact TakeL.nil | (apply TakeL.cons; · repeat (first | exact Take1.head | apply Take1.tail))))⟩)
  · refine WL.on rfl rfl ?_
    refine WL.y (Yl.move rfl) rfl ?_
    refine WL.on rfl rfl ?_
    have q10 := of_decide_eq_false g10
    refine WL.y (Yl.index (j := 0) un55 sz5 rfl rfl (Reads.s hx) rfl (by omega)) rfl ?_
    refine WL.on rfl rfl ?_
    refine WL.y (Yl.loadE on5 rfl (Reads.s hx) (iat (i := 0) (by omega))) rfl ?_
    refine WL.on rfl rfl ?_
    refine WL.y (Yl.lss rfl rfl) rfl ?_
    refine WL.y (Yl.pickF rfl rfl) rfl ?_
    refine WL.y (Yl.move rfl) rfl ?_
    refine WL.both (t := 16) rfl (fun g16 => ?_) (fun g16 => ?_)
    · refine WL.off rfl rfl rfl rfl ?_
      refine WL.off rfl rfl rfl rfl ?_
      refine WL.off rfl rfl rfl rfl ?_
      refine WL.off rfl rfl rfl rfl ?_
      refine WL.y (Yl.pickT rfl rfl) rfl ?_
      refine WL.y (Yl.move rfl) rfl ?_
      refine WL.off rfl rfl rfl rfl ?_
      refine WL.off rfl rfl rfl rfl ?_
      refine WL.off rfl rfl rfl rfl ?_
      refine WL.off rfl rfl rfl rfl ?_
      refine WL.y (Yl.pickT rfl rfl) rfl ?_
      refine WL.y (Yl.move rfl) rfl ?_
      refine WL.off rfl rfl rfl rfl ?_
      refine WL.off rfl rfl rfl rfl ?_
      refine WL.off rfl rfl rfl rfl ?_
      refine WL.off rfl rfl rfl rfl ?_
      refine WL.y (Yl.pickT rfl rfl) rfl ?_
      refine WL.y (Yl.move rfl) rfl ?_
      refine WL.off rfl rfl rfl rfl ?_
      refine WL.off rfl rfl rfl rfl ?_
      refine WL.off rfl rfl rfl rfl ?_
      refine WL.off rfl rfl rfl rfl ?_
      refine WL.off rfl rfl rfl rfl ?_
      refine WL.off rfl rfl rfl rfl ?_
      refine WL.off rfl rfl rfl rfl ?_
      refine WL.off rfl rfl rfl rfl ?_
      refine WL.off rfl rfl rfl rfl ?_
      refine WL.y (Yl.pickT rfl rfl) rfl ?_
      refine WL.nil ?_
      refine WC.condT rfl (by first | rfl | (simp; done) | (simp; omega)) ?_
      refine WC.seq ?_
      have hno := rOk_no (bs := bs) (by first | (have := of_decide_eq_true g10; omega) | (have := of_decide_eq_true g16; omega) | (have := of_decide_eq_true g22; omega) | (have := of_decide_eq_true g28; omega) | (have := of_decide_eq_true g34; omega) | omega)
      refine WC.region ?_
      refine WL.y (Yl.build rfl (cs := (Po.new 0).rcells (.slice none 0 0)) (fun _ => by kernel_rfl)) rfl ?_
      refine WL.sto (Sto.agg sz42 rfl rfl (by repeat (first | exact Take1.head | apply Take1.tail)) (Po.rones _ _ rfl) rfl (by rfl) (show _ = (Po.new 0).rcells (.slice none 0 0) from rfl)) (fun _ h => nomatch h) ?_
      refine WL.y (Yl.assign rfl) rfl ?_
      refine WL.nil ?_
      refine WC.ret ?_
      repeat (first | (with_reducible refine peelT ?_) | (with_reducible refine peelB ?_) | (with_reducible refine peelTX ?_) | (with_reducible refine peelBX ?_) | (with_reducible refine peelBN ?_) | (with_reducible refine peelBO rfl ?_))
      first
      | (rw [e, e2]
         exact retC2 (cs := (pA bs k).rcells (.slice aoP (rlA bs k).length caP)) (.inr rfl) Try.results28 ag42 rfl rfl (by repeat (first | exact Take1.head | apply Take1.tail)) rfl fun w' h => ⟨(aoP, caP), trivial, rfl, h.sub (by repeat (first | exact TakeL.nil | (apply TakeL.cons; · repeat (first | exact Take1.head | apply Take1.tail))))⟩)
      | (rw [hno.1, hno.2]
         exact retC2 (cs := (Po.new 0).rcells (.slice none 0 0)) (.inr rfl) Try.results28 ag42 rfl rfl (by repeat (first | exact Take1.head | apply Take1.tail)) rfl fun w' h => ⟨(none, 0), trivial, rfl, ((h.addNil 27 5).readOnly (v := .slice none 0 0) .head).sub (by repeat (first | exact TakeL.nil | (apply TakeL.cons; · repeat (first | exact Take1.head | apply Take1.tail))))⟩)
    · refine WL.on rfl rfl ?_
      refine WL.y (Yl.move rfl) rfl ?_
      refine WL.on rfl rfl ?_
      have q16 := of_decide_eq_false g16
      refine WL.y (Yl.index (j := 0) un55 sz5 rfl rfl (Reads.s hx) rfl (by omega)) rfl ?_
      refine WL.on rfl rfl ?_
      refine WL.y (Yl.loadE on5 rfl (Reads.s hx) (iat (i := 0) (by omega))) rfl ?_
      refine WL.on rfl rfl ?_
      refine WL.y (Yl.gtr rfl rfl) rfl ?_
      refine WL.y (Yl.pickF rfl rfl) rfl ?_
      refine WL.y (Yl.move rfl) rfl ?_
      refine WL.both (t := 22) rfl (fun g22 => ?_) (fun g22 => ?_)
      · refine WL.off rfl rfl rfl rfl ?_
        refine WL.off rfl rfl rfl rfl ?_
        refine WL.off rfl rfl rfl rfl ?_
        refine WL.off rfl rfl rfl rfl ?_
        refine WL.y (Yl.pickT rfl rfl) rfl ?_
        refine WL.y (Yl.move rfl) rfl ?_
        refine WL.off rfl rfl rfl rfl ?_
        refine WL.off rfl rfl rfl rfl ?_
        refine WL.off rfl rfl rfl rfl ?_
        refine WL.off rfl rfl rfl rfl ?_
        refine WL.y (Yl.pickT rfl rfl) rfl ?_
        refine WL.y (Yl.move rfl) rfl ?_
        refine WL.off rfl rfl rfl rfl ?_
        refine WL.off rfl rfl rfl rfl ?_
        refine WL.off rfl rfl rfl rfl ?_
        refine WL.off rfl rfl rfl rfl ?_
        refine WL.off rfl rfl rfl rfl ?_
        refine WL.off rfl rfl rfl rfl ?_
        refine WL.off rfl rfl rfl rfl ?_
        refine WL.off rfl rfl rfl rfl ?_
        refine WL.off rfl rfl rfl rfl ?_
        refine WL.y (Yl.pickT rfl rfl) rfl ?_
        refine WL.nil ?_
        refine WC.condT rfl (by first | rfl | (simp; done) | (simp; omega)) ?_
        refine WC.seq ?_
        have hno := rOk_no (bs := bs) (by first | (have := of_decide_eq_true g10; omega) | (have := of_decide_eq_true g16; omega) | (have := of_decide_eq_true g22; omega) | (have := of_decide_eq_true g28; omega) | (have := of_decide_eq_true g34; omega) | omega)
        refine WC.region ?_
        refine WL.y (Yl.build rfl (cs := (Po.new 0).rcells (.slice none 0 0)) (fun _ => by kernel_rfl)) rfl ?_
        refine WL.sto (Sto.agg sz42 rfl rfl (by repeat (first | exact Take1.head | apply Take1.tail)) (Po.rones _ _ rfl) rfl (by rfl) (show _ = (Po.new 0).rcells (.slice none 0 0) from rfl)) (fun _ h => nomatch h) ?_
        refine WL.y (Yl.assign rfl) rfl ?_
        refine WL.nil ?_
        refine WC.ret ?_
        repeat (first | (with_reducible refine peelT ?_) | (with_reducible refine peelB ?_) | (with_reducible refine peelTX ?_) | (with_reducible refine peelBX ?_) | (with_reducible refine peelBN ?_) | (with_reducible refine peelBO rfl ?_))
        first
        | (rw [e, e2]
           exact retC2 (cs := (pA bs k).rcells (.slice aoP (rlA bs k).length caP)) (.inr rfl) Try.results28 ag42 rfl rfl (by repeat (first | exact Take1.head | apply Take1.tail)) rfl fun w' h => ⟨(aoP, caP), trivial, rfl, h.sub (by repeat (first | exact TakeL.nil | (apply TakeL.cons; · repeat (first | exact Take1.head | apply Take1.tail))))⟩)
        | (rw [hno.1, hno.2]
           exact retC2 (cs := (Po.new 0).rcells (.slice none 0 0)) (.inr rfl) Try.results28 ag42 rfl rfl (by repeat (first | exact Take1.head | apply Take1.tail)) rfl fun w' h => ⟨(none, 0), trivial, rfl, ((h.addNil 27 5).readOnly (v := .slice none 0 0) .head).sub (by repeat (first | exact TakeL.nil | (apply TakeL.cons; · repeat (first | exact Take1.head | apply Take1.tail))))⟩)
      · refine WL.on rfl rfl ?_
        refine WL.y (Yl.move rfl) rfl ?_
        refine WL.on rfl rfl ?_
        have q22 := of_decide_eq_false g22
        refine WL.y (Yl.index (j := 1) un55 sz5 rfl rfl (Reads.s hx) rfl (by omega)) rfl ?_
        refine WL.on rfl rfl ?_
        refine WL.y (Yl.loadE on5 rfl (Reads.s hx) (iat (i := 1) (by omega))) rfl ?_
        refine WL.on rfl rfl ?_
        refine WL.y (Yl.gtr rfl rfl) rfl ?_
        refine WL.y (Yl.pickF rfl rfl) rfl ?_
        refine WL.y (Yl.move rfl) rfl ?_
        refine WL.both (t := 28) rfl (fun g28 => ?_) (fun g28 => ?_)
        · refine WL.off rfl rfl rfl rfl ?_
          refine WL.off rfl rfl rfl rfl ?_
          refine WL.off rfl rfl rfl rfl ?_
          refine WL.off rfl rfl rfl rfl ?_
          refine WL.y (Yl.pickT rfl rfl) rfl ?_
          refine WL.y (Yl.move rfl) rfl ?_
          refine WL.off rfl rfl rfl rfl ?_
          refine WL.off rfl rfl rfl rfl ?_
          refine WL.off rfl rfl rfl rfl ?_
          refine WL.off rfl rfl rfl rfl ?_
          refine WL.off rfl rfl rfl rfl ?_
          refine WL.off rfl rfl rfl rfl ?_
          refine WL.off rfl rfl rfl rfl ?_
          refine WL.off rfl rfl rfl rfl ?_
          refine WL.off rfl rfl rfl rfl ?_
          refine WL.y (Yl.pickT rfl rfl) rfl ?_
          refine WL.nil ?_
          refine WC.condT rfl (by first | rfl | (simp; done) | (simp; omega)) ?_
          refine WC.seq ?_
          have hno := rOk_no (bs := bs) (by first | (have := of_decide_eq_true g10; omega) | (have := of_decide_eq_true g16; omega) | (have := of_decide_eq_true g22; omega) | (have := of_decide_eq_true g28; omega) | (have := of_decide_eq_true g34; omega) | omega)
          refine WC.region ?_
          refine WL.y (Yl.build rfl (cs := (Po.new 0).rcells (.slice none 0 0)) (fun _ => by kernel_rfl)) rfl ?_
          refine WL.sto (Sto.agg sz42 rfl rfl (by repeat (first | exact Take1.head | apply Take1.tail)) (Po.rones _ _ rfl) rfl (by rfl) (show _ = (Po.new 0).rcells (.slice none 0 0) from rfl)) (fun _ h => nomatch h) ?_
          refine WL.y (Yl.assign rfl) rfl ?_
          refine WL.nil ?_
          refine WC.ret ?_
          repeat (first | (with_reducible refine peelT ?_) | (with_reducible refine peelB ?_) | (with_reducible refine peelTX ?_) | (with_reducible refine peelBX ?_) | (with_reducible refine peelBN ?_) | (with_reducible refine peelBO rfl ?_))
          first
          | (rw [e, e2]
             exact retC2 (cs := (pA bs k).rcells (.slice aoP (rlA bs k).length caP)) (.inr rfl) Try.results28 ag42 rfl rfl (by repeat (first | exact Take1.head | apply Take1.tail)) rfl fun w' h => ⟨(aoP, caP), trivial, rfl, h.sub (by repeat (first | exact TakeL.nil | (apply TakeL.cons; · repeat (first | exact Take1.head | apply Take1.tail))))⟩)
          | (rw [hno.1, hno.2]
             exact retC2 (cs := (Po.new 0).rcells (.slice none 0 0)) (.inr rfl) Try.results28 ag42 rfl rfl (by repeat (first | exact Take1.head | apply Take1.tail)) rfl fun w' h => ⟨(none, 0), trivial, rfl, ((h.addNil 27 5).readOnly (v := .slice none 0 0) .head).sub (by repeat (first | exact TakeL.nil | (apply TakeL.cons; · repeat (first | exact Take1.head | apply Take1.tail))))⟩)
        · refine WL.on rfl rfl ?_
          refine WL.y (Yl.move rfl) rfl ?_
          refine WL.on rfl rfl ?_
          have q28 := of_decide_eq_false g28
          refine WL.y (Yl.index (j := 2) un55 sz5 rfl rfl (Reads.s hx) rfl (by omega)) rfl ?_
          refine WL.on rfl rfl ?_
          refine WL.y (Yl.loadE on5 rfl (Reads.s hx) (iat (i := 2) (by omega))) rfl ?_
          refine WL.on rfl rfl ?_
          refine WL.y (Yl.gtr rfl rfl) rfl ?_
          refine WL.y (Yl.pickF rfl rfl) rfl ?_
          refine WL.y (Yl.move rfl) rfl ?_
          refine WL.both (t := 34) rfl (fun g34 => ?_) (fun g34 => ?_)
          · refine WL.off rfl rfl rfl rfl ?_
            refine WL.off rfl rfl rfl rfl ?_
            refine WL.off rfl rfl rfl rfl ?_
            refine WL.off rfl rfl rfl rfl ?_
            refine WL.off rfl rfl rfl rfl ?_
            refine WL.off rfl rfl rfl rfl ?_
            refine WL.off rfl rfl rfl rfl ?_
            refine WL.off rfl rfl rfl rfl ?_
            refine WL.off rfl rfl rfl rfl ?_
            refine WL.y (Yl.pickT rfl rfl) rfl ?_
            refine WL.nil ?_
            refine WC.condT rfl (by first | rfl | (simp; done) | (simp; omega)) ?_
            refine WC.seq ?_
            have hno := rOk_no (bs := bs) (by first | (have := of_decide_eq_true g10; omega) | (have := of_decide_eq_true g16; omega) | (have := of_decide_eq_true g22; omega) | (have := of_decide_eq_true g28; omega) | (have := of_decide_eq_true g34; omega) | omega)
            refine WC.region ?_
            refine WL.y (Yl.build rfl (cs := (Po.new 0).rcells (.slice none 0 0)) (fun _ => by kernel_rfl)) rfl ?_
            refine WL.sto (Sto.agg sz42 rfl rfl (by repeat (first | exact Take1.head | apply Take1.tail)) (Po.rones _ _ rfl) rfl (by rfl) (show _ = (Po.new 0).rcells (.slice none 0 0) from rfl)) (fun _ h => nomatch h) ?_
            refine WL.y (Yl.assign rfl) rfl ?_
            refine WL.nil ?_
            refine WC.ret ?_
            repeat (first | (with_reducible refine peelT ?_) | (with_reducible refine peelB ?_) | (with_reducible refine peelTX ?_) | (with_reducible refine peelBX ?_) | (with_reducible refine peelBN ?_) | (with_reducible refine peelBO rfl ?_))
            first
            | (rw [e, e2]
               exact retC2 (cs := (pA bs k).rcells (.slice aoP (rlA bs k).length caP)) (.inr rfl) Try.results28 ag42 rfl rfl (by repeat (first | exact Take1.head | apply Take1.tail)) rfl fun w' h => ⟨(aoP, caP), trivial, rfl, h.sub (by repeat (first | exact TakeL.nil | (apply TakeL.cons; · repeat (first | exact Take1.head | apply Take1.tail))))⟩)
            | (rw [hno.1, hno.2]
               exact retC2 (cs := (Po.new 0).rcells (.slice none 0 0)) (.inr rfl) Try.results28 ag42 rfl rfl (by repeat (first | exact Take1.head | apply Take1.tail)) rfl fun w' h => ⟨(none, 0), trivial, rfl, ((h.addNil 27 5).readOnly (v := .slice none 0 0) .head).sub (by repeat (first | exact TakeL.nil | (apply TakeL.cons; · repeat (first | exact Take1.head | apply Take1.tail))))⟩)
          · refine WL.on rfl rfl ?_
            refine WL.y (Yl.move rfl) rfl ?_
            refine WL.on rfl rfl ?_
            refine WL.y (Yl.len un55 rfl) rfl ?_
            refine WL.on rfl rfl ?_
            refine WL.y (Yl.move rfl) rfl ?_
            refine WL.on rfl rfl ?_
            have q34 := of_decide_eq_false g34
            refine WL.y (Yl.index (j := 2) un55 sz5 rfl rfl (Reads.s hx) rfl (by omega)) rfl ?_
            refine WL.on rfl rfl ?_
            refine WL.y (Yl.loadE on5 rfl (Reads.s hx) (iat (i := 2) (by omega))) rfl ?_
            refine WL.on rfl rfl ?_
            have hb2 := hB.getD (i := 2) (by omega)
            refine WL.y (Yl.conv un5 un3 rfl (IntWalk.i64_in _ (by omega))) rfl ?_
            refine WL.on rfl rfl ?_
            refine WL.y (Yl.mul rfl rfl (IntWalk.i64_in _ (by omega))) rfl ?_
            refine WL.on rfl rfl ?_
            refine WL.y (Yl.add rfl rfl (IntWalk.i64_in _ (by omega))) rfl ?_
            refine WL.on rfl rfl ?_
            refine WL.y (Yl.neq rfl rfl) rfl ?_
            refine WL.y (Yl.pickF rfl rfl) rfl ?_
            refine WL.nil ?_
            refine WC.condD rfl (fun g44 => ?_) (fun g44 => ?_)
            · refine WC.seq ?_
              have hno := rOk_no (bs := bs) (by first | (have := of_decide_eq_true g10; omega) | (have := of_decide_eq_true g16; omega) | (have := of_decide_eq_true g22; omega) | (have := of_decide_eq_true g28; omega) | (have := of_decide_eq_true g34; omega) | omega)
              refine WC.region ?_
              refine WL.y (Yl.build rfl (cs := (Po.new 0).rcells (.slice none 0 0)) (fun _ => by kernel_rfl)) rfl ?_
              refine WL.sto (Sto.agg sz42 rfl rfl (by repeat (first | exact Take1.head | apply Take1.tail)) (Po.rones _ _ rfl) rfl (by rfl) (show _ = (Po.new 0).rcells (.slice none 0 0) from rfl)) (fun _ h => nomatch h) ?_
              refine WL.y (Yl.assign rfl) rfl ?_
              refine WL.nil ?_
              refine WC.ret ?_
              repeat (first | (with_reducible refine peelT ?_) | (with_reducible refine peelB ?_) | (with_reducible refine peelTX ?_) | (with_reducible refine peelBX ?_) | (with_reducible refine peelBN ?_) | (with_reducible refine peelBO rfl ?_))
              first
              | (rw [e, e2]
                 exact retC2 (cs := (pA bs k).rcells (.slice aoP (rlA bs k).length caP)) (.inr rfl) Try.results28 ag42 rfl rfl (by repeat (first | exact Take1.head | apply Take1.tail)) rfl fun w' h => ⟨(aoP, caP), trivial, rfl, h.sub (by repeat (first | exact TakeL.nil | (apply TakeL.cons; · repeat (first | exact Take1.head | apply Take1.tail))))⟩)
              | (rw [hno.1, hno.2]
                 exact retC2 (cs := (Po.new 0).rcells (.slice none 0 0)) (.inr rfl) Try.results28 ag42 rfl rfl (by repeat (first | exact Take1.head | apply Take1.tail)) rfl fun w' h => ⟨(none, 0), trivial, rfl, ((h.addNil 27 5).readOnly (v := .slice none 0 0) .head).sub (by repeat (first | exact TakeL.nil | (apply TakeL.cons; · repeat (first | exact Take1.head | apply Take1.tail))))⟩)
            · refine WC.skip ?_
              refine WC.seq ?_
              have hl3 : 3 ≤ bs.length := by omega
              have hb2 := hB.getD (i := 2) (by omega)
              obtain ⟨n, hn⟩ : ∃ n : Nat, (bs.getD 2 0).toNat = n := ⟨_, rfl⟩
              have hln : bs.length = 3 + 11 * n := by omega
              have hn64 : n ≤ 64 := by omega
              have hhd : rHd bs = true := by
                unfold rHd telU
                simp only [Bool.and_eq_true, decide_eq_true_eq]
                exact ⟨⟨⟨⟨by omega, by omega, by omega⟩, by omega⟩, by omega⟩, by omega⟩
              refine WC.region ?_
              refine WL.y (Yl.move rfl) rfl ?_
              refine WL.y (Yl.index (j := 0) un55 sz5 rfl rfl (Reads.s hx) rfl (by omega)) rfl ?_
              refine WL.y (Yl.loadE on5 rfl (Reads.s hx) (iat (i := 0) (by omega))) rfl ?_
              refine WL.y (Yl.build rfl (cs := (Po.new (bs.getD 0 0)).rcells (.slice none 0 0)) (fun _ => by kernel_rfl)) rfl ?_
              refine WL.to (To.alloc (cs := (Po.new 0).rcells (.slice none 0 0)) zr42 rfl) rfl ?_
              intro b4
              refine WL.sto (Sto.agg sz42 rfl rfl (by repeat (first | exact Take1.head | apply Take1.tail)) (Po.rones _ _ rfl) rfl (by rfl) (show _ = (Po.new (bs.getD 0 0)).rcells (.slice none 0 0) from rfl)) (fun _ h => nomatch h) ?_
              refine WL.nil ?_
              refine WC.seq ?_
              refine WC.seq ?_
              refine WC.region ?_
              refine WL.y (Yl.assign rfl) rfl ?_
              refine WL.nil ?_
              refine WC.block ?_
              refine WC.view (fun w h => (h.addNil 27 5).readOnly (v := .slice none 0 0) .head) ?_
              refine WC.loop (α := Nat × (Option Addr × Nat)) (fun s => [(0, .slice al bs.length cl), (2, .pointer (some ⟨b2, 0, none⟩)), (3, .bool false), (4, .pointer (some ⟨b4, 0, none⟩)), (5, .int .i64 ((3 + 11 * s.1 : Nat) : Int))]) (fun s => [blkR b2 42 ((Po.new 0).rcells (.slice none 0 0)), blkR b4 42 ((pA bs s.1).rcells (.slice s.2.1 (rlA bs s.1).length s.2.2)), rdR (.slice s.2.1 (rlA bs s.1).length s.2.2) 5 (rlA bs s.1).length (vcs ruV (rlA bs s.1))]) (fun s => s.1 ≤ n ∧ ∀ j, j < s.1 → okA bs (3 + 11 * j) = true) (fun s => n - s.1) (0, (none, 0)) ⟨Nat.zero_le _, fun j h => by omega⟩ ⟨(by repeat (first | exact Sub.nil | refine Sub.cons rfl ?_)), _, (by repeat (first | exact TakeL.nil | (apply TakeL.cons; · repeat (first | exact Take1.head | apply Take1.tail))))⟩ ?_
              rintro ⟨k, aoP, caP⟩ ⟨hk, hok⟩
              dsimp only at hk hok ⊢
              have hrk := rlA_len bs k
              refine WC.seq ?_
              refine WC.seq ?_
              refine WC.region ?_
              refine WL.y (Yl.move rfl) rfl ?_
              refine WL.y (Yl.move rfl) rfl ?_
              refine WL.y (Yl.len un55 rfl) rfl ?_
              refine WL.y (Yl.lss rfl rfl) rfl ?_
              refine WL.nil ?_
              refine WC.condD rfl (fun g53 => ?_) (fun g53 => ?_)
              · refine WC.skip ?_
                refine WC.seq ?_
                refine WC.block ?_
                refine WC.seq ?_
                refine WC.seq ?_
                refine WC.region ?_
                refine WL.y (Yl.move rfl) rfl ?_
                refine WL.y (Yl.move rfl) rfl ?_
                have hkn : k < n := by omega
                refine WL.y (Yl.add rfl rfl (IntWalk.i64_in _ (by omega))) rfl ?_
                refine WL.say (t := 58) (v' := .int .i64 ((3 + 11 * k + 1 : Nat) : Int)) rfl (by rfl) ?_
                refine WL.y (Yl.index un55 sz5 rfl rfl (Reads.s hx) rfl (by omega)) rfl ?_
                refine WL.y (Yl.loadE on5 rfl (Reads.s hx) (iat (by omega))) rfl ?_
                refine WL.y (Yl.gtr rfl rfl) rfl ?_
                refine WL.y (Yl.move rfl) rfl ?_
                refine WL.both (t := 62) rfl (fun g62 => ?_) (fun g62 => ?_)
                · refine WL.off rfl rfl rfl rfl ?_
                  refine WL.off rfl rfl rfl rfl ?_
                  refine WL.off rfl rfl rfl rfl ?_
                  refine WL.off rfl rfl rfl rfl ?_
                  refine WL.off rfl rfl rfl rfl ?_
                  refine WL.off rfl rfl rfl rfl ?_
                  refine WL.y (Yl.pickT rfl rfl) rfl ?_
                  refine WL.y (Yl.move rfl) rfl ?_
                  refine WL.off rfl rfl rfl rfl ?_
                  refine WL.off rfl rfl rfl rfl ?_
                  refine WL.off rfl rfl rfl rfl ?_
                  refine WL.off rfl rfl rfl rfl ?_
                  refine WL.off rfl rfl rfl rfl ?_
                  refine WL.off rfl rfl rfl rfl ?_
                  refine WL.y (Yl.pickT rfl rfl) rfl ?_
                  refine WL.y (Yl.move rfl) rfl ?_
                  refine WL.off rfl rfl rfl rfl ?_
                  refine WL.off rfl rfl rfl rfl ?_
                  refine WL.off rfl rfl rfl rfl ?_
                  refine WL.off rfl rfl rfl rfl ?_
                  refine WL.off rfl rfl rfl rfl ?_
                  refine WL.off rfl rfl rfl rfl ?_
                  refine WL.y (Yl.pickT rfl rfl) rfl ?_
                  refine WL.y (Yl.move rfl) rfl ?_
                  refine WL.off rfl rfl rfl rfl ?_
                  refine WL.off rfl rfl rfl rfl ?_
                  refine WL.off rfl rfl rfl rfl ?_
                  refine WL.off rfl rfl rfl rfl ?_
                  refine WL.off rfl rfl rfl rfl ?_
                  refine WL.off rfl rfl rfl rfl ?_
                  refine WL.y (Yl.pickT rfl rfl) rfl ?_
                  refine WL.nil ?_
                  refine WC.condT rfl (by first | rfl | (simp; done) | (simp; omega)) ?_
                  refine WC.seq ?_
                  have hno := rOk_at (bs := bs) (j := k) (by omega) (okA_no (by first | (have := of_decide_eq_true g62; omega) | (have := of_decide_eq_true g70; omega) | (have := of_decide_eq_true g78; omega) | (have := of_decide_eq_true g86; omega) | omega))
                  refine WC.region ?_
                  refine WL.y (Yl.build rfl (cs := (Po.new 0).rcells (.slice none 0 0)) (fun _ => by kernel_rfl)) rfl ?_
                  refine WL.sto (Sto.agg sz42 rfl rfl (by repeat (first | exact Take1.head | apply Take1.tail)) (Po.rones _ _ rfl) rfl (by rfl) (show _ = (Po.new 0).rcells (.slice none 0 0) from rfl)) (fun _ h => nomatch h) ?_
                  refine WL.y (Yl.assign rfl) rfl ?_
                  refine WL.nil ?_
                  refine WC.ret ?_
                  repeat (first | (with_reducible refine peelT ?_) | (with_reducible refine peelB ?_) | (with_reducible refine peelTX ?_) | (with_reducible refine peelBX ?_) | (with_reducible refine peelBN ?_) | (with_reducible refine peelBO rfl ?_))
                  first
                  | (rw [e, e2]
                     exact retC2 (cs := (pA bs k).rcells (.slice aoP (rlA bs k).length caP)) (.inr rfl) Try.results28 ag42 rfl rfl (by repeat (first | exact Take1.head | apply Take1.tail)) rfl fun w' h => ⟨(aoP, caP), trivial, rfl, h.sub (by repeat (first | exact TakeL.nil | (apply TakeL.cons; · repeat (first | exact Take1.head | apply Take1.tail))))⟩)
                  | (rw [hno.1, hno.2]
                     exact retC2 (cs := (Po.new 0).rcells (.slice none 0 0)) (.inr rfl) Try.results28 ag42 rfl rfl (by repeat (first | exact Take1.head | apply Take1.tail)) rfl fun w' h => ⟨(none, 0), trivial, rfl, ((h.addNil 27 5).readOnly (v := .slice none 0 0) .head).sub (by repeat (first | exact TakeL.nil | (apply TakeL.cons; · repeat (first | exact Take1.head | apply Take1.tail))))⟩)
                · refine WL.on rfl rfl ?_
                  refine WL.y (Yl.move rfl) rfl ?_
                  refine WL.on rfl rfl ?_
                  refine WL.y (Yl.move rfl) rfl ?_
                  refine WL.on rfl rfl ?_
                  refine WL.y (Yl.add rfl rfl (IntWalk.i64_in _ (by omega))) rfl ?_
                  refine WL.say (t := 65) (v' := .int .i64 ((3 + 11 * k + 2 : Nat) : Int)) rfl (by rfl) ?_
                  refine WL.on rfl rfl ?_
                  have q62 := of_decide_eq_false g62
                  refine WL.y (Yl.index un55 sz5 rfl rfl (Reads.s hx) rfl (by omega)) rfl ?_
                  refine WL.on rfl rfl ?_
                  refine WL.y (Yl.loadE on5 rfl (Reads.s hx) (iat (by omega))) rfl ?_
                  refine WL.on rfl rfl ?_
                  refine WL.y (Yl.gtr rfl rfl) rfl ?_
                  refine WL.y (Yl.pickF rfl rfl) rfl ?_
                  refine WL.y (Yl.move rfl) rfl ?_
                  refine WL.both (t := 70) rfl (fun g70 => ?_) (fun g70 => ?_)
                  · refine WL.off rfl rfl rfl rfl ?_
                    refine WL.off rfl rfl rfl rfl ?_
                    refine WL.off rfl rfl rfl rfl ?_
                    refine WL.off rfl rfl rfl rfl ?_
                    refine WL.off rfl rfl rfl rfl ?_
                    refine WL.off rfl rfl rfl rfl ?_
                    refine WL.y (Yl.pickT rfl rfl) rfl ?_
                    refine WL.y (Yl.move rfl) rfl ?_
                    refine WL.off rfl rfl rfl rfl ?_
                    refine WL.off rfl rfl rfl rfl ?_
                    refine WL.off rfl rfl rfl rfl ?_
                    refine WL.off rfl rfl rfl rfl ?_
                    refine WL.off rfl rfl rfl rfl ?_
                    refine WL.off rfl rfl rfl rfl ?_
                    refine WL.y (Yl.pickT rfl rfl) rfl ?_
                    refine WL.y (Yl.move rfl) rfl ?_
                    refine WL.off rfl rfl rfl rfl ?_
                    refine WL.off rfl rfl rfl rfl ?_
                    refine WL.off rfl rfl rfl rfl ?_
                    refine WL.off rfl rfl rfl rfl ?_
                    refine WL.off rfl rfl rfl rfl ?_
                    refine WL.off rfl rfl rfl rfl ?_
                    refine WL.y (Yl.pickT rfl rfl) rfl ?_
                    refine WL.nil ?_
                    refine WC.condT rfl (by first | rfl | (simp; done) | (simp; omega)) ?_
                    refine WC.seq ?_
                    have hno := rOk_at (bs := bs) (j := k) (by omega) (okA_no (by first | (have := of_decide_eq_true g62; omega) | (have := of_decide_eq_true g70; omega) | (have := of_decide_eq_true g78; omega) | (have := of_decide_eq_true g86; omega) | omega))
                    refine WC.region ?_
                    refine WL.y (Yl.build rfl (cs := (Po.new 0).rcells (.slice none 0 0)) (fun _ => by kernel_rfl)) rfl ?_
                    refine WL.sto (Sto.agg sz42 rfl rfl (by repeat (first | exact Take1.head | apply Take1.tail)) (Po.rones _ _ rfl) rfl (by rfl) (show _ = (Po.new 0).rcells (.slice none 0 0) from rfl)) (fun _ h => nomatch h) ?_
                    refine WL.y (Yl.assign rfl) rfl ?_
                    refine WL.nil ?_
                    refine WC.ret ?_
                    repeat (first | (with_reducible refine peelT ?_) | (with_reducible refine peelB ?_) | (with_reducible refine peelTX ?_) | (with_reducible refine peelBX ?_) | (with_reducible refine peelBN ?_) | (with_reducible refine peelBO rfl ?_))
                    first
                    | (rw [e, e2]
                       exact retC2 (cs := (pA bs k).rcells (.slice aoP (rlA bs k).length caP)) (.inr rfl) Try.results28 ag42 rfl rfl (by repeat (first | exact Take1.head | apply Take1.tail)) rfl fun w' h => ⟨(aoP, caP), trivial, rfl, h.sub (by repeat (first | exact TakeL.nil | (apply TakeL.cons; · repeat (first | exact Take1.head | apply Take1.tail))))⟩)
                    | (rw [hno.1, hno.2]
                       exact retC2 (cs := (Po.new 0).rcells (.slice none 0 0)) (.inr rfl) Try.results28 ag42 rfl rfl (by repeat (first | exact Take1.head | apply Take1.tail)) rfl fun w' h => ⟨(none, 0), trivial, rfl, ((h.addNil 27 5).readOnly (v := .slice none 0 0) .head).sub (by repeat (first | exact TakeL.nil | (apply TakeL.cons; · repeat (first | exact Take1.head | apply Take1.tail))))⟩)
                  · refine WL.on rfl rfl ?_
                    refine WL.y (Yl.move rfl) rfl ?_
                    refine WL.on rfl rfl ?_
                    refine WL.y (Yl.move rfl) rfl ?_
                    refine WL.on rfl rfl ?_
                    refine WL.y (Yl.add rfl rfl (IntWalk.i64_in _ (by omega))) rfl ?_
                    refine WL.say (t := 73) (v' := .int .i64 ((3 + 11 * k + 5 : Nat) : Int)) rfl (by rfl) ?_
                    refine WL.on rfl rfl ?_
                    have q70 := of_decide_eq_false g70
                    refine WL.y (Yl.index un55 sz5 rfl rfl (Reads.s hx) rfl (by omega)) rfl ?_
                    refine WL.on rfl rfl ?_
                    refine WL.y (Yl.loadE on5 rfl (Reads.s hx) (iat (by omega))) rfl ?_
                    refine WL.on rfl rfl ?_
                    refine WL.y (Yl.gtr rfl rfl) rfl ?_
                    refine WL.y (Yl.pickF rfl rfl) rfl ?_
                    refine WL.y (Yl.move rfl) rfl ?_
                    refine WL.both (t := 78) rfl (fun g78 => ?_) (fun g78 => ?_)
                    · refine WL.off rfl rfl rfl rfl ?_
                      refine WL.off rfl rfl rfl rfl ?_
                      refine WL.off rfl rfl rfl rfl ?_
                      refine WL.off rfl rfl rfl rfl ?_
                      refine WL.off rfl rfl rfl rfl ?_
                      refine WL.off rfl rfl rfl rfl ?_
                      refine WL.y (Yl.pickT rfl rfl) rfl ?_
                      refine WL.y (Yl.move rfl) rfl ?_
                      refine WL.off rfl rfl rfl rfl ?_
                      refine WL.off rfl rfl rfl rfl ?_
                      refine WL.off rfl rfl rfl rfl ?_
                      refine WL.off rfl rfl rfl rfl ?_
                      refine WL.off rfl rfl rfl rfl ?_
                      refine WL.off rfl rfl rfl rfl ?_
                      refine WL.y (Yl.pickT rfl rfl) rfl ?_
                      refine WL.nil ?_
                      refine WC.condT rfl (by first | rfl | (simp; done) | (simp; omega)) ?_
                      refine WC.seq ?_
                      have hno := rOk_at (bs := bs) (j := k) (by omega) (okA_no (by first | (have := of_decide_eq_true g62; omega) | (have := of_decide_eq_true g70; omega) | (have := of_decide_eq_true g78; omega) | (have := of_decide_eq_true g86; omega) | omega))
                      refine WC.region ?_
                      refine WL.y (Yl.build rfl (cs := (Po.new 0).rcells (.slice none 0 0)) (fun _ => by kernel_rfl)) rfl ?_
                      refine WL.sto (Sto.agg sz42 rfl rfl (by repeat (first | exact Take1.head | apply Take1.tail)) (Po.rones _ _ rfl) rfl (by rfl) (show _ = (Po.new 0).rcells (.slice none 0 0) from rfl)) (fun _ h => nomatch h) ?_
                      refine WL.y (Yl.assign rfl) rfl ?_
                      refine WL.nil ?_
                      refine WC.ret ?_
                      repeat (first | (with_reducible refine peelT ?_) | (with_reducible refine peelB ?_) | (with_reducible refine peelTX ?_) | (with_reducible refine peelBX ?_) | (with_reducible refine peelBN ?_) | (with_reducible refine peelBO rfl ?_))
                      first
                      | (rw [e, e2]
                         exact retC2 (cs := (pA bs k).rcells (.slice aoP (rlA bs k).length caP)) (.inr rfl) Try.results28 ag42 rfl rfl (by repeat (first | exact Take1.head | apply Take1.tail)) rfl fun w' h => ⟨(aoP, caP), trivial, rfl, h.sub (by repeat (first | exact TakeL.nil | (apply TakeL.cons; · repeat (first | exact Take1.head | apply Take1.tail))))⟩)
                      | (rw [hno.1, hno.2]
                         exact retC2 (cs := (Po.new 0).rcells (.slice none 0 0)) (.inr rfl) Try.results28 ag42 rfl rfl (by repeat (first | exact Take1.head | apply Take1.tail)) rfl fun w' h => ⟨(none, 0), trivial, rfl, ((h.addNil 27 5).readOnly (v := .slice none 0 0) .head).sub (by repeat (first | exact TakeL.nil | (apply TakeL.cons; · repeat (first | exact Take1.head | apply Take1.tail))))⟩)
                    · refine WL.on rfl rfl ?_
                      refine WL.y (Yl.move rfl) rfl ?_
                      refine WL.on rfl rfl ?_
                      refine WL.y (Yl.move rfl) rfl ?_
                      refine WL.on rfl rfl ?_
                      refine WL.y (Yl.add rfl rfl (IntWalk.i64_in _ (by omega))) rfl ?_
                      refine WL.say (t := 81) (v' := .int .i64 ((3 + 11 * k + 6 : Nat) : Int)) rfl (by rfl) ?_
                      refine WL.on rfl rfl ?_
                      have q78 := of_decide_eq_false g78
                      refine WL.y (Yl.index un55 sz5 rfl rfl (Reads.s hx) rfl (by omega)) rfl ?_
                      refine WL.on rfl rfl ?_
                      refine WL.y (Yl.loadE on5 rfl (Reads.s hx) (iat (by omega))) rfl ?_
                      refine WL.on rfl rfl ?_
                      refine WL.y (Yl.gtr rfl rfl) rfl ?_
                      refine WL.y (Yl.pickF rfl rfl) rfl ?_
                      refine WL.y (Yl.move rfl) rfl ?_
                      refine WL.both (t := 86) rfl (fun g86 => ?_) (fun g86 => ?_)
                      · refine WL.off rfl rfl rfl rfl ?_
                        refine WL.off rfl rfl rfl rfl ?_
                        refine WL.off rfl rfl rfl rfl ?_
                        refine WL.off rfl rfl rfl rfl ?_
                        refine WL.off rfl rfl rfl rfl ?_
                        refine WL.off rfl rfl rfl rfl ?_
                        refine WL.y (Yl.pickT rfl rfl) rfl ?_
                        refine WL.nil ?_
                        refine WC.condT rfl (by first | rfl | (simp; done) | (simp; omega)) ?_
                        refine WC.seq ?_
                        have hno := rOk_at (bs := bs) (j := k) (by omega) (okA_no (by first | (have := of_decide_eq_true g62; omega) | (have := of_decide_eq_true g70; omega) | (have := of_decide_eq_true g78; omega) | (have := of_decide_eq_true g86; omega) | omega))
                        refine WC.region ?_
                        refine WL.y (Yl.build rfl (cs := (Po.new 0).rcells (.slice none 0 0)) (fun _ => by kernel_rfl)) rfl ?_
                        refine WL.sto (Sto.agg sz42 rfl rfl (by repeat (first | exact Take1.head | apply Take1.tail)) (Po.rones _ _ rfl) rfl (by rfl) (show _ = (Po.new 0).rcells (.slice none 0 0) from rfl)) (fun _ h => nomatch h) ?_
                        refine WL.y (Yl.assign rfl) rfl ?_
                        refine WL.nil ?_
                        refine WC.ret ?_
                        repeat (first | (with_reducible refine peelT ?_) | (with_reducible refine peelB ?_) | (with_reducible refine peelTX ?_) | (with_reducible refine peelBX ?_) | (with_reducible refine peelBN ?_) | (with_reducible refine peelBO rfl ?_))
                        first
                        | (rw [e, e2]
                           exact retC2 (cs := (pA bs k).rcells (.slice aoP (rlA bs k).length caP)) (.inr rfl) Try.results28 ag42 rfl rfl (by repeat (first | exact Take1.head | apply Take1.tail)) rfl fun w' h => ⟨(aoP, caP), trivial, rfl, h.sub (by repeat (first | exact TakeL.nil | (apply TakeL.cons; · repeat (first | exact Take1.head | apply Take1.tail))))⟩)
                        | (rw [hno.1, hno.2]
                           exact retC2 (cs := (Po.new 0).rcells (.slice none 0 0)) (.inr rfl) Try.results28 ag42 rfl rfl (by repeat (first | exact Take1.head | apply Take1.tail)) rfl fun w' h => ⟨(none, 0), trivial, rfl, ((h.addNil 27 5).readOnly (v := .slice none 0 0) .head).sub (by repeat (first | exact TakeL.nil | (apply TakeL.cons; · repeat (first | exact Take1.head | apply Take1.tail))))⟩)
                      · refine WL.on rfl rfl ?_
                        refine WL.y (Yl.move rfl) rfl ?_
                        refine WL.on rfl rfl ?_
                        refine WL.y (Yl.move rfl) rfl ?_
                        refine WL.on rfl rfl ?_
                        refine WL.y (Yl.add rfl rfl (IntWalk.i64_in _ (by omega))) rfl ?_
                        refine WL.say (t := 89) (v' := .int .i64 ((3 + 11 * k + 10 : Nat) : Int)) rfl (by rfl) ?_
                        refine WL.on rfl rfl ?_
                        have q86 := of_decide_eq_false g86
                        refine WL.y (Yl.index un55 sz5 rfl rfl (Reads.s hx) rfl (by omega)) rfl ?_
                        refine WL.on rfl rfl ?_
                        refine WL.y (Yl.loadE on5 rfl (Reads.s hx) (iat (by omega))) rfl ?_
                        refine WL.on rfl rfl ?_
                        refine WL.y (Yl.gtr rfl rfl) rfl ?_
                        refine WL.y (Yl.pickF rfl rfl) rfl ?_
                        refine WL.nil ?_
                        refine WC.condD rfl (fun g93 => ?_) (fun g93 => ?_)
                        · refine WC.seq ?_
                          have hno := rOk_at (bs := bs) (j := k) (by omega) (okA_no (by first | (have := of_decide_eq_true g62; omega) | (have := of_decide_eq_true g70; omega) | (have := of_decide_eq_true g78; omega) | (have := of_decide_eq_true g86; omega) | omega))
                          refine WC.region ?_
                          refine WL.y (Yl.build rfl (cs := (Po.new 0).rcells (.slice none 0 0)) (fun _ => by kernel_rfl)) rfl ?_
                          refine WL.sto (Sto.agg sz42 rfl rfl (by repeat (first | exact Take1.head | apply Take1.tail)) (Po.rones _ _ rfl) rfl (by rfl) (show _ = (Po.new 0).rcells (.slice none 0 0) from rfl)) (fun _ h => nomatch h) ?_
                          refine WL.y (Yl.assign rfl) rfl ?_
                          refine WL.nil ?_
                          refine WC.ret ?_
                          repeat (first | (with_reducible refine peelT ?_) | (with_reducible refine peelB ?_) | (with_reducible refine peelTX ?_) | (with_reducible refine peelBX ?_) | (with_reducible refine peelBN ?_) | (with_reducible refine peelBO rfl ?_))
                          first
                          | (rw [e, e2]
                             exact retC2 (cs := (pA bs k).rcells (.slice aoP (rlA bs k).length caP)) (.inr rfl) Try.results28 ag42 rfl rfl (by repeat (first | exact Take1.head | apply Take1.tail)) rfl fun w' h => ⟨(aoP, caP), trivial, rfl, h.sub (by repeat (first | exact TakeL.nil | (apply TakeL.cons; · repeat (first | exact Take1.head | apply Take1.tail))))⟩)
                          | (rw [hno.1, hno.2]
                             exact retC2 (cs := (Po.new 0).rcells (.slice none 0 0)) (.inr rfl) Try.results28 ag42 rfl rfl (by repeat (first | exact Take1.head | apply Take1.tail)) rfl fun w' h => ⟨(none, 0), trivial, rfl, ((h.addNil 27 5).readOnly (v := .slice none 0 0) .head).sub (by repeat (first | exact TakeL.nil | (apply TakeL.cons; · repeat (first | exact Take1.head | apply Take1.tail))))⟩)
                        · refine WC.skip ?_
                          refine WC.seq ?_
                          have hX := rA_ok hB (i := 3 + 11 * k) (by omega)
                          have hgo := okA_yes hB (i := 3 + 11 * k) (by omega) ⟨by omega, by omega, by omega, by omega, by omega⟩
                          have r3 := hB.getD (i := 3 + 11 * k + 3) (by omega)
                          have r4 := hB.getD (i := 3 + 11 * k + 4) (by omega)
                          have r7 := hB.getD (i := 3 + 11 * k + 7) (by omega)
                          have r8 := hB.getD (i := 3 + 11 * k + 8) (by omega)
                          refine WC.drawAny (Hs := []) mixed (by kernel_rfl) ⟨_, (by repeat (first | exact TakeL.nil | (apply TakeL.cons; · repeat (first | exact Take1.head | apply Take1.tail))))⟩ ?_
                          refine WD.take 0 rfl (by kernel_rfl) (by kernel_rfl) (by kernel_rfl) rfl rfl (Yl.move rfl) rfl ?_
                          refine WD.take 1 rfl (by kernel_rfl) (by kernel_rfl) (by kernel_rfl) rfl rfl (Yl.move rfl) rfl ?_
                          refine WD.take 2 rfl (by kernel_rfl) (by kernel_rfl) (by kernel_rfl) rfl rfl (Yl.index un55 sz5 rfl rfl (Reads.s hx) rfl (by omega)) rfl ?_
                          refine WD.take 3 rfl (by kernel_rfl) (by kernel_rfl) (by kernel_rfl) rfl rfl (Yl.loadE on5 rfl (Reads.s hx) (iat (by omega))) rfl ?_
                          refine WD.take 4 rfl (by kernel_rfl) (by kernel_rfl) (by kernel_rfl) rfl rfl (Yl.move rfl) rfl ?_
                          refine WD.take 5 rfl (by kernel_rfl) (by kernel_rfl) (by kernel_rfl) rfl rfl (Yl.move rfl) rfl ?_
                          refine WD.take 6 rfl (by kernel_rfl) (by kernel_rfl) (by kernel_rfl) rfl rfl (Yl.add rfl rfl (IntWalk.i64_in _ (by omega))) rfl ?_
                          refine WD.say (t := 101) (v' := .int .i64 ((3 + 11 * k + 3 : Nat) : Int)) rfl (by rfl) ?_
                          refine WD.take 7 rfl (by kernel_rfl) (by kernel_rfl) (by kernel_rfl) rfl rfl (Yl.index un55 sz5 rfl rfl (Reads.s hx) rfl (by omega)) rfl ?_
                          refine WD.take 8 rfl (by kernel_rfl) (by kernel_rfl) (by kernel_rfl) rfl rfl (Yl.loadE on5 rfl (Reads.s hx) (iat (by omega))) rfl ?_
                          refine WD.take 9 rfl (by kernel_rfl) (by kernel_rfl) (by kernel_rfl) rfl rfl (Yl.conv un5 un22 rfl (IntWalk.u16_in _ (by omega))) rfl ?_
                          refine WD.take 10 rfl (by kernel_rfl) (by kernel_rfl) (by kernel_rfl) rfl rfl (Yl.mul rfl rfl rfl) rfl ?_
                          refine WD.say (t := 105) (v' := .int .u16 (256 * bs.getD (3 + 11 * k + 3) 0)) rfl (by exact congrArg _ (IntWalk.u16_in _ (by omega))) ?_
                          refine WD.take 11 rfl (by kernel_rfl) (by kernel_rfl) (by kernel_rfl) rfl rfl (Yl.move rfl) rfl ?_
                          refine WD.take 12 rfl (by kernel_rfl) (by kernel_rfl) (by kernel_rfl) rfl rfl (Yl.move rfl) rfl ?_
                          refine WD.take 13 rfl (by kernel_rfl) (by kernel_rfl) (by kernel_rfl) rfl rfl (Yl.add rfl rfl (IntWalk.i64_in _ (by omega))) rfl ?_
                          refine WD.say (t := 108) (v' := .int .i64 ((3 + 11 * k + 4 : Nat) : Int)) rfl (by rfl) ?_
                          refine WD.take 14 rfl (by kernel_rfl) (by kernel_rfl) (by kernel_rfl) rfl rfl (Yl.index un55 sz5 rfl rfl (Reads.s hx) rfl (by omega)) rfl ?_
                          refine WD.take 15 rfl (by kernel_rfl) (by kernel_rfl) (by kernel_rfl) rfl rfl (Yl.loadE on5 rfl (Reads.s hx) (iat (by omega))) rfl ?_
                          refine WD.take 16 rfl (by kernel_rfl) (by kernel_rfl) (by kernel_rfl) rfl rfl (Yl.conv un5 un22 rfl (IntWalk.u16_in _ (by omega))) rfl ?_
                          refine WD.take 17 rfl (by kernel_rfl) (by kernel_rfl) (by kernel_rfl) rfl rfl (Yl.add rfl rfl rfl) rfl ?_
                          refine WD.say (t := 112) (v' := .int .u16 (256 * bs.getD (3 + 11 * k + 3) 0 + bs.getD (3 + 11 * k + 4) 0)) rfl (by exact congrArg _ (IntWalk.u16_in _ (by omega))) ?_
                          refine WD.take 18 rfl (by kernel_rfl) (by kernel_rfl) (by kernel_rfl) rfl rfl (Yl.move rfl) rfl ?_
                          refine WD.take 19 rfl (by kernel_rfl) (by kernel_rfl) (by kernel_rfl) rfl rfl (Yl.move rfl) rfl ?_
                          refine WD.take 20 rfl (by kernel_rfl) (by kernel_rfl) (by kernel_rfl) rfl rfl (Yl.add rfl rfl (IntWalk.i64_in _ (by omega))) rfl ?_
                          refine WD.say (t := 115) (v' := .int .i64 ((3 + 11 * k + 7 : Nat) : Int)) rfl (by rfl) ?_
                          refine WD.take 21 rfl (by kernel_rfl) (by kernel_rfl) (by kernel_rfl) rfl rfl (Yl.index un55 sz5 rfl rfl (Reads.s hx) rfl (by omega)) rfl ?_
                          refine WD.take 22 rfl (by kernel_rfl) (by kernel_rfl) (by kernel_rfl) rfl rfl (Yl.loadE on5 rfl (Reads.s hx) (iat (by omega))) rfl ?_
                          refine WD.take 23 rfl (by kernel_rfl) (by kernel_rfl) (by kernel_rfl) rfl rfl (Yl.conv un5 un22 rfl (IntWalk.u16_in _ (by omega))) rfl ?_
                          refine WD.take 24 rfl (by kernel_rfl) (by kernel_rfl) (by kernel_rfl) rfl rfl (Yl.mul rfl rfl rfl) rfl ?_
                          refine WD.say (t := 119) (v' := .int .u16 (256 * bs.getD (3 + 11 * k + 7) 0)) rfl (by exact congrArg _ (IntWalk.u16_in _ (by omega))) ?_
                          refine WD.take 25 rfl (by kernel_rfl) (by kernel_rfl) (by kernel_rfl) rfl rfl (Yl.move rfl) rfl ?_
                          refine WD.take 26 rfl (by kernel_rfl) (by kernel_rfl) (by kernel_rfl) rfl rfl (Yl.move rfl) rfl ?_
                          refine WD.take 27 rfl (by kernel_rfl) (by kernel_rfl) (by kernel_rfl) rfl rfl (Yl.add rfl rfl (IntWalk.i64_in _ (by omega))) rfl ?_
                          refine WD.say (t := 122) (v' := .int .i64 ((3 + 11 * k + 8 : Nat) : Int)) rfl (by rfl) ?_
                          refine WD.take 28 rfl (by kernel_rfl) (by kernel_rfl) (by kernel_rfl) rfl rfl (Yl.index un55 sz5 rfl rfl (Reads.s hx) rfl (by omega)) rfl ?_
                          refine WD.take 29 rfl (by kernel_rfl) (by kernel_rfl) (by kernel_rfl) rfl rfl (Yl.loadE on5 rfl (Reads.s hx) (iat (by omega))) rfl ?_
                          refine WD.take 30 rfl (by kernel_rfl) (by kernel_rfl) (by kernel_rfl) rfl rfl (Yl.conv un5 un22 rfl (IntWalk.u16_in _ (by omega))) rfl ?_
                          refine WD.take 31 rfl (by kernel_rfl) (by kernel_rfl) (by kernel_rfl) rfl rfl (Yl.add rfl rfl rfl) rfl ?_
                          refine WD.say (t := 126) (v' := .int .u16 (256 * bs.getD (3 + 11 * k + 7) 0 + bs.getD (3 + 11 * k + 8) 0)) rfl (by exact congrArg _ (IntWalk.u16_in _ (by omega))) ?_
                          refine WD.take 32 rfl (by kernel_rfl) (by kernel_rfl) (by kernel_rfl) rfl rfl (Yl.move rfl) rfl ?_
                          refine WD.take 33 rfl (by kernel_rfl) (by kernel_rfl) (by kernel_rfl) rfl rfl (Yl.move rfl) rfl ?_
                          refine WD.take 34 rfl (by kernel_rfl) (by kernel_rfl) (by kernel_rfl) rfl rfl (Yl.add rfl rfl (IntWalk.i64_in _ (by omega))) rfl ?_
                          refine WD.say (t := 129) (v' := .int .i64 ((3 + 11 * k + 9 : Nat) : Int)) rfl (by rfl) ?_
                          refine WD.take 35 rfl (by kernel_rfl) (by kernel_rfl) (by kernel_rfl) rfl rfl (Yl.index un55 sz5 rfl rfl (Reads.s hx) rfl (by omega)) rfl ?_
                          refine WD.take 36 rfl (by kernel_rfl) (by kernel_rfl) (by kernel_rfl) rfl rfl (Yl.loadE on5 rfl (Reads.s hx) (iat (by omega))) rfl ?_
                          refine WD.take 37 rfl (by kernel_rfl) (by kernel_rfl) (by kernel_rfl) rfl rfl (Yl.move rfl) rfl ?_
                          refine WD.take 38 rfl (by kernel_rfl) (by kernel_rfl) (by kernel_rfl) rfl rfl (Yl.move rfl) rfl ?_
                          refine WD.take 39 rfl (by kernel_rfl) (by kernel_rfl) (by kernel_rfl) rfl rfl (Yl.add rfl rfl (IntWalk.i64_in _ (by omega))) rfl ?_
                          refine WD.say (t := 134) (v' := .int .i64 ((3 + 11 * k + 10 : Nat) : Int)) rfl (by rfl) ?_
                          refine WD.take 40 rfl (by kernel_rfl) (by kernel_rfl) (by kernel_rfl) rfl rfl (Yl.index un55 sz5 rfl rfl (Reads.s hx) rfl (by omega)) rfl ?_
                          refine WD.take 41 rfl (by kernel_rfl) (by kernel_rfl) (by kernel_rfl) rfl rfl (Yl.loadE on5 rfl (Reads.s hx) (iat (by omega))) rfl ?_
                          refine WD.take 42 rfl (by kernel_rfl) (by kernel_rfl) (by kernel_rfl) rfl rfl (Yl.eql rfl rfl) rfl ?_
                          refine WD.take 43 rfl (by kernel_rfl) (by kernel_rfl) (by kernel_rfl) rfl rfl (Yl.build rfl (cs := (rA bs (3 + 11 * k)).cells) (fun _ => by kernel_rfl)) rfl ?_
                          refine WD.one 44 (by kernel_rfl) ?_
                          refine WO.to rfl rfl .no (To.alloc (cs := Ru.zero.cells) zr27 rfl) rfl (fun _ => ⟨_, (by repeat (first | exact TakeL.nil | (apply TakeL.cons; · repeat (first | exact Take1.head | apply Take1.tail))))⟩) ?_
                          intro b6
                          refine WD.one 45 (by kernel_rfl) ?_
                          refine WO.sto rfl rfl .no (Sto.agg sz27 rfl rfl (by repeat (first | exact Take1.head | apply Take1.tail)) (Ru.ones _) (Ru.len _) (by rfl) (Ru.all Ru.zero (rA bs (3 + 11 * k)).cells (Ru.len _))) ⟨_, (by repeat (first | exact TakeL.nil | (apply TakeL.cons; · repeat (first | exact Take1.head | apply Take1.tail))))⟩ ?_
                          refine WD.done (by kernel_rfl) ?_
                          refine WC.seq ?_
                          refine WC.region ?_
                          refine WL.y (Yl.field fo42_1 rfl) rfl ?_
                          refine WL.y (Yl.load on38 rfl (by repeat (first | exact Take1.head | apply Take1.tail)) (by rfl)) rfl ?_
                          refine WL.y (Yl.len un38 rfl) rfl ?_
                          refine WL.y (Yl.loadN ag27 rfl (by repeat (first | exact Take1.head | apply Take1.tail)) (by rfl) (Ru.call _)) rfl ?_
                          refine WL.callC (xs := [.tmp 4, .tmp 141, .tmp 142]) (cap := []) rfl rfl en15 (by repeat (first | exact TakeL.nil | (apply TakeL.cons; · repeat (first | exact Take1.head | apply Take1.tail)))) (fun w hw => rins_any b4 aoP caP (pA bs k) ((rlA bs k).length : Int) (rA bs (3 + 11 * k)) (rlA_ok hB (by omega)) (by show (rlA bs k).length ≤ 64; omega) hX w hw.left.here) rfl ?_
                          rintro ⟨ao2, ca2⟩ -
                          dsimp only [polS, List.cons_append, List.nil_append]
                          have hie := insE_end (p := pA bs k) (r := rA bs (3 + 11 * k)) (by show (rlA bs k).length < 64; omega)
                          refine WL.y (Yl.neq rfl rfl) rfl ?_
                          refine WL.nil ?_
                          refine WC.condD rfl (fun g144 => ?_) (fun g144 => ?_)
                          · refine WC.seq ?_
                            have hno := rOk_at (bs := bs) (j := k) (by omega) (by rw [hgo]; exact hie.1 g144)
                            refine WC.region ?_
                            refine WL.y (Yl.build rfl (cs := (Po.new 0).rcells (.slice none 0 0)) (fun _ => by kernel_rfl)) rfl ?_
                            refine WL.sto (Sto.agg sz42 rfl rfl (by repeat (first | exact Take1.head | apply Take1.tail)) (Po.rones _ _ rfl) rfl (by rfl) (show _ = (Po.new 0).rcells (.slice none 0 0) from rfl)) (fun _ h => nomatch h) ?_
                            refine WL.y (Yl.assign rfl) rfl ?_
                            refine WL.nil ?_
                            refine WC.ret ?_
                            repeat (first | (with_reducible refine peelT ?_) | (with_reducible refine peelB ?_) | (with_reducible refine peelTX ?_) | (with_reducible refine peelBX ?_) | (with_reducible refine peelBN ?_) | (with_reducible refine peelBO rfl ?_))
                            first
                            | (rw [e, e2]
                               exact retC2 (cs := (pA bs k).rcells (.slice aoP (rlA bs k).length caP)) (.inr rfl) Try.results28 ag42 rfl rfl (by repeat (first | exact Take1.head | apply Take1.tail)) rfl fun w' h => ⟨(aoP, caP), trivial, rfl, h.sub (by repeat (first | exact TakeL.nil | (apply TakeL.cons; · repeat (first | exact Take1.head | apply Take1.tail))))⟩)
                            | (rw [hno.1, hno.2]
                               exact retC2 (cs := (Po.new 0).rcells (.slice none 0 0)) (.inr rfl) Try.results28 ag42 rfl rfl (by repeat (first | exact Take1.head | apply Take1.tail)) rfl fun w' h => ⟨(none, 0), trivial, rfl, ((h.addNil 27 5).readOnly (v := .slice none 0 0) .head).sub (by repeat (first | exact TakeL.nil | (apply TakeL.cons; · repeat (first | exact Take1.head | apply Take1.tail))))⟩)
                          · refine WC.skip ?_
                            refine WC.region ?_
                            refine WL.y (Yl.move rfl) rfl ?_
                            refine WL.y (Yl.add rfl rfl (IntWalk.i64_in _ (by omega))) rfl ?_
                            refine WL.say (t := 55) (v' := .int .i64 ((3 + 11 * (k + 1) : Nat) : Int)) rfl (by (refine congrArg (Value.int .i64) ?_; omega)) ?_
                            refine WL.y (Yl.assign rfl) rfl ?_
                            refine WL.nil ?_
                            obtain ⟨hm, hip⟩ := hie.2 (Decidable.byContradiction fun h => g144 h)
                            have e2 : insP (pA bs k) ((rlA bs k).length : Int) (rA bs (3 + 11 * k)) = pA bs (k + 1) := by
                              rw [show ((rlA bs k).length : Int) = ((pA bs k).rl.length : Int) from rfl, hip]
                              unfold pA
                              dsimp only
                              rw [rlA_next]
                            rw [e2]
                            exact ⟨rfl, (k + 1, ao2, ca2), ⟨by omega, fun j hj => by
                              by_cases e : j = k
                              · rw [e, hgo]; exact hm
                              · exact hok j (by omega)⟩, by dsimp only; omega, (by repeat (first | exact Sub.nil | refine Sub.cons rfl ?_)), _, (by repeat (first | exact TakeL.nil | (apply TakeL.cons; · repeat (first | exact Take1.head | apply Take1.tail))))⟩
              · refine WC.exit ?_
                refine WC.seq ?_
                have hkn : k = n := by omega
                have e : rOk bs = true := by
                  unfold rOk
                  rw [hhd, Bool.true_and, List.all_eq_true]
                  intro j hj
                  exact hok j (by have := List.mem_range.1 hj; omega)
                have e2 : rldP bs = pA bs k := by
                  unfold rldP pA
                  rw [e, if_pos rfl, hkn, ← hn]
                  rfl
                refine WC.region ?_
                refine WL.y (Yl.loadN ag42 rfl (by repeat (first | exact Take1.head | apply Take1.tail)) (by rfl) (by rfl)) rfl ?_
                refine WL.sto (Sto.agg sz42 rfl rfl (by repeat (first | exact Take1.head | apply Take1.tail)) (Po.rones _ _ rfl) rfl (by rfl) (show _ = (pA bs k).rcells (.slice aoP (rlA bs k).length caP) from rfl)) (fun _ h => nomatch h) ?_
                refine WL.y (Yl.assign rfl) rfl ?_
                refine WL.nil ?_
                refine WC.ret ?_
                repeat (first | (with_reducible refine peelT ?_) | (with_reducible refine peelB ?_) | (with_reducible refine peelTX ?_) | (with_reducible refine peelBX ?_) | (with_reducible refine peelBN ?_) | (with_reducible refine peelBO rfl ?_))
                first
                | (rw [e, e2]
                   exact retC2 (cs := (pA bs k).rcells (.slice aoP (rlA bs k).length caP)) (.inr rfl) Try.results28 ag42 rfl rfl (by repeat (first | exact Take1.head | apply Take1.tail)) rfl fun w' h => ⟨(aoP, caP), trivial, rfl, h.sub (by repeat (first | exact TakeL.nil | (apply TakeL.cons; · repeat (first | exact Take1.head | apply Take1.tail))))⟩)
                | (rw [hno.1, hno.2]
                   exact retC2 (cs := (Po.new 0).rcells (.slice none 0 0)) (.inr rfl) Try.results28 ag42 rfl rfl (by repeat (first | exact Take1.head | apply Take1.tail)) rfl fun w' h => ⟨(none, 0), trivial, rfl, ((h.addNil 27 5).readOnly (v := .slice none 0 0) .head).sub (by repeat (first | exact TakeL.nil | (apply TakeL.cons; · repeat (first | exact Take1.head | apply Take1.tail))))⟩)
end Go.Proofs.Ytnlibngncicobaa
