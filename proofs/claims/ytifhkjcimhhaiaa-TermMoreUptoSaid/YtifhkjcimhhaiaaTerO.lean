/- Close: what it is made of: the walks. -/
import Derived.Test.YtifhkjcimhhaiaaTerM
import Derived.Test.YtifhkjcimhhaiaaLibHi
namespace Go.Proofs.Ytifhkjcimhhaiaa
open Go Go.RowKit
abbrev Sl := Tm × Tm
def slV (p : Sl) : Value := tmV (some (sealT p.1 p.2))
def SlG (p : Sl) : Prop := p.1.ok ∧ p.2.ok ∧ (sealT p.1 p.2).enc.length ≤ 900000
theorem vtSl : VT Try.prog 34 1 SlG slV := .agg (cel := fun p => tmC (some (sealT p.1 p.2))) (by kernel_rfl) (by kernel_rfl) (by decide) (fun _ => rfl) (fun _ _ => rfl) (fun o => tm_ones _)
theorem seal_len (k x : Tm) : (sealT k x).enc.length = 1 + (k.enc.length + x.enc.length) := by unfold sealT; rw [enc_mk, encs_cons, encs_cons, encs_nil, List.append_nil, List.length_append, List.length_append]; rfl
theorem pair_len (k x : Tm) : (pairT k x).enc.length = 1 + (k.enc.length + x.enc.length) := by unfold pairT; rw [enc_mk, encs_cons, encs_cons, encs_nil, List.append_nil, List.length_append, List.length_append]; rfl
def SlAll (ws : List Sl) : Prop := ∀ p ∈ ws, SlG p
theorem SlAll.get {ws : List Sl} (h : SlAll ws) {j : Nat} {p : Sl} (hp : ws[j]? = some p) : SlG p := h p (List.mem_of_getElem? hp)
theorem SlAll.set {ws : List Sl} (h : SlAll ws) {j : Nat} {p : Sl} (hp : SlG p) : SlAll (ws.set j p) := fun q hq => (List.mem_or_eq_of_mem_set hq).elim (h q) (fun e => e ▸ hp)
/-- Can a sealed one be opened? -/
noncomputable def opB (m : MpT) (p : Sl) : Bool := canB m (some p.1)
noncomputable def opn (m : MpT) (ws : List Sl) : List (Option Tm) := (ws.filter (opB m)).map fun p => some p.2
/-- What the predicate holds: the cells of k and l, l's row, k and its map. -/
def cloR (b1 b3 kb mb : Nat) (m : MpT) (l : List (Option Tm)) (y : Option Addr × Nat) : List Res := [blkR b1 25 [.slice y.1 l.length y.2], ownR (.slice y.1 l.length y.2) 34 1 l.length (vcs tmV l), blkR b3 45 [.pointer (some ⟨kb, 0, none⟩)], blkR kb 78 [.map (some mb)], mapR tmV unV mb m]
set_option maxRecDepth 100000 in
theorem clo_any (b1 b3 kb mb : Nat) (m : MpT) (hm : MpG m) (l : List (Option Tm)) (y : Option Addr × Nat) (hl : l.length ≤ 100000000) (p : Sl) (hp : SlG p) (w : World) (hw : OK w (fpL (cloR b1 b3 kb mb m l y)) (cloR b1 b3 kb mb m l y) w) :
    Fn Try.prog 36 [slV p, .pointer (some ⟨b3, 0, none⟩), .pointer (some ⟨b1, 0, none⟩)] (cloR b1 b3 kb mb m l y) w (fun _ : Option Addr × Nat => True) (fun _ => .bool (opB m p)) (fun z => cloR b1 b3 kb mb m (l ++ if opB m p then [some p.2] else []) z) := by
  obtain ⟨k, x⟩ := p
  obtain ⟨hk, hx, hlen⟩ := hp
  obtain ⟨ao, ca⟩ := y
  have hlen : (sealT k x).enc.length ≤ 900000 := hlen
  have hsl := seal_len k x
  have hko : OkO (some k) := fun s h => by cases h; exact hk
  have hxo : OkO (some x) := fun s h => by cases h; exact hx
  have hop : opB m (k, x) = canB m (some k) := rfl
  unfold cloR at hw ⊢
  unfold slV tmV
  refine enterF Try.func36 rfl Try.ntmps36 rfl hw ?_
  refine WC.seq ?_
  refine WC.region ?_
  refine WL.to (To.box (cs := tmC (some (sealT k x))) rfl rfl) rfl ?_
  intro b3
  refine WL.y (Yl.assign rfl) rfl ?_
  refine WL.nil ?_
  refine WC.seq ?_
  refine WC.region ?_
  refine WL.y (Yl.loadN ag34 rfl (by repeat (first | exact Take1.head | apply Take1.tail)) (by rfl) (show _ = tmC (some (sealT k x)) from rfl)) rfl ?_
  refine WL.callC (xs := [.tmp 8]) (cap := []) rfl rfl en34 (by repeat (first | exact TakeL.nil | (apply TakeL.cons; · repeat (first | exact Take1.head | apply Take1.tail)))) (fun w hw => two_any (sealT k x) k x (seal_ok hk hx) rfl (by omega) w hw.left.here) rfl ?_
  rintro ⟨⟩ -
  refine WL.y (Yl.move rfl) rfl ?_
  refine WL.y (Yl.extract rfl rfl) rfl ?_
  refine WL.y (Yl.extract rfl rfl) rfl ?_
  refine WL.to (To.alloc (cs := [.string (strOfNums [])]) zr34 rfl) rfl ?_
  intro b5
  refine WL.to (To.alloc (cs := [.string (strOfNums [])]) zr34 rfl) rfl ?_
  intro b6
  refine WL.sto (Sto.agg sz34 rfl rfl (by repeat (first | exact Take1.head | apply Take1.tail)) (tm_ones _) rfl (by rfl) (show _ = tmC (some k) from rfl)) (fun _ h => nomatch h) ?_
  refine WL.sto (Sto.agg sz34 rfl rfl (by repeat (first | exact Take1.head | apply Take1.tail)) (tm_ones _) rfl (by rfl) (show _ = tmC (some x) from rfl)) (fun _ h => nomatch h) ?_
  refine WL.nil ?_
  refine WC.seq ?_
  refine WC.seq ?_
  refine WC.region ?_
  refine WL.y (Yl.load on45 rfl (by repeat (first | exact Take1.head | apply Take1.tail)) (by rfl)) rfl ?_
  refine WL.y (Yl.loadN ag34 rfl (by repeat (first | exact Take1.head | apply Take1.tail)) (by rfl) (show _ = tmC (some k) from rfl)) rfl ?_
  refine WL.callC (xs := [.tmp 12, .tmp 13]) (cap := []) rfl rfl en18 (by repeat (first | exact TakeL.nil | (apply TakeL.cons; · repeat (first | exact Take1.head | apply Take1.tail)))) (fun w hw => can_any kb mb m hm (some k) hko (show k.enc.length ≤ _ by omega) w (hw.get (by repeat (first | exact Take1.head | apply Take1.tail))) (hw.get (by repeat (first | exact Take1.head | apply Take1.tail)))) rfl ?_
  rintro ⟨⟩ -
  refine WL.y (Yl.not rfl) rfl ?_
  refine WL.nil ?_
  refine WC.cond rfl (fun g15 => ?_) (fun g15 => ?_)
  · refine WC.seq ?_
    refine WC.region ?_
    refine WL.y (Yl.assign rfl) rfl ?_
    refine WL.nil ?_
    refine WC.ret ?_
    repeat (first | (with_reducible refine peelT ?_) | (with_reducible refine peelB ?_) | (with_reducible refine peelTX ?_) | (with_reducible refine peelBX ?_) | (with_reducible refine peelBN ?_) | (with_reducible refine peelBO rfl ?_))
    have hb : opB m (k, x) = false := by rw [hop]; simpa using g15
    rw [hb]
    exact ret1 (.inr rfl) Try.results36 rfl fun w' h => ⟨(ao, ca), trivial, rfl, by simpa using h.sub (by repeat (first | exact TakeL.nil | (apply TakeL.cons; · repeat (first | exact Take1.head | apply Take1.tail))))⟩
  · refine WC.skip ?_
    refine WC.seq ?_
    have hb : opB m (k, x) = true := by rw [hop]; simpa using g15
    rw [hb]
    refine WC.region ?_
    refine WL.y (Yl.load on25 rfl (by repeat (first | exact Take1.head | apply Take1.tail)) (by rfl)) rfl ?_
    refine WL.y (Yl.loadN ag34 rfl (by repeat (first | exact Take1.head | apply Take1.tail)) (by rfl) (show _ = tmC (some x) from rfl)) rfl ?_
    refine WL.to (To.buildSlice (vs := [tmV (some x)]) un25 zs34 rfl rfl (by simp [Value.cells, tmV, tmC]) (by decide) (by decide)) rfl ?_
    intro b18
    rw [show flat [tmV (some x)] = vcs tmV [some x] from rfl]
    refine WL.to (To.append sl25 rfl rfl (by repeat (first | exact Take1.head | apply Take1.tail)) (Reads.of (RdOf.blk (size := 1) (n := 1) (cs := vcs tmV [some x]) (cs' := vcs tmV [some x]) (Nat.le_refl _) (by unfold maxLen; omega) (by simp [vcs, tmV, tmC, flat, Value.cells]) rfl) (by repeat (first | exact Take1.head | apply Take1.tail))) (vtM.ones _) (show l.length + 1 = (l ++ [some x]).length by simp) (show vcs tmV l ++ vcs tmV [some x] = vcs tmV (l ++ [some x]) by rw [vcs_app]) (by simp; unfold maxLen; omega) (by simp; omega)) rfl ?_
    rintro ⟨⟨ao19, c19⟩, hc19⟩
    dsimp only at hc19 ⊢
    refine WL.sto (Sto.one sz25 rfl rfl (by repeat (first | exact Take1.head | apply Take1.tail)) rfl (by rfl) (by rfl)) (fun _ h => nomatch h) ?_
    refine WL.nil ?_
    refine WC.seq ?_
    refine WC.region ?_
    refine WL.y (Yl.assign rfl) rfl ?_
    refine WL.nil ?_
    refine WC.ret ?_
    repeat (first | (with_reducible refine peelT ?_) | (with_reducible refine peelB ?_) | (with_reducible refine peelTX ?_) | (with_reducible refine peelBX ?_) | (with_reducible refine peelBN ?_) | (with_reducible refine peelBO rfl ?_))
    exact ret1 (.inr rfl) Try.results36 rfl fun w' h => ⟨(ao19, c19), trivial, rfl, h.sub (by repeat (first | exact TakeL.nil | (apply TakeL.cons; · repeat (first | exact Take1.head | apply Take1.tail))))⟩
theorem cloneM_any (v : Value) (xs : List (Option Tm)) (hl : xs.length ≤ 100000000) (w : World) (hx : RdS w (fpL []) v 1 xs.length (vcs tmV xs)) (hw : OK w (fpL []) [] w) :
    Fn Try.prog 33 [v] [] w (fun _ : Option Addr × Nat => True) (fun y => .slice y.1 xs.length y.2) (fun y => [ownR (.slice y.1 xs.length y.2) 34 1 xs.length (vcs tmV xs)]) := by
  obtain ⟨al, cl, rfl, hcl, hml⟩ := hx.rd.form
  refine enterF Try.func33 rfl Try.ntmps33 rfl hw ?_
  refine WC.seq ?_
  refine WC.region ?_
  refine WL.y (Yl.assign rfl) rfl ?_
  refine WL.nil ?_
  refine WC.seq ?_
  refine WC.seq ?_
  refine WC.region ?_
  refine WL.y (Yl.move rfl) rfl ?_
  refine WL.y (Yl.eqNil un25 rfl rfl) rfl ?_
  refine WL.nil ?_
  refine WC.cond rfl (fun g4 => ?_) (fun g4 => ?_)
  · refine WC.seq ?_
    refine WC.region ?_
    refine WL.y (Yl.assign rfl) rfl ?_
    refine WL.nil ?_
    refine WC.ret ?_
    repeat (first | (with_reducible refine peelT ?_) | (with_reducible refine peelB ?_) | (with_reducible refine peelTX ?_) | (with_reducible refine peelBX ?_) | (with_reducible refine peelBN ?_) | (with_reducible refine peelBO rfl ?_))
    have h0 : xs.length = 0 := by
      rcases hx.rd.2 with ⟨_, h0⟩ | ⟨a, cap, he, _⟩
      · exact h0
      · cases he; simp at g4
    have hxs : xs = [] := List.eq_nil_of_length_eq_zero h0
    subst hxs
    exact ret1 (.inr rfl) Try.results33 rfl fun w' h => ⟨(none, 0), trivial, rfl, (h.addNil 34 1).sub (by repeat (first | exact TakeL.nil | (apply TakeL.cons; · repeat (first | exact Take1.head | apply Take1.tail))))⟩
  · refine WC.skip ?_
    refine WC.seq ?_
    refine WC.region ?_
    refine WL.to (To.buildSlice (vs := []) un25 zs34 rfl rfl (by simp) (by decide) (by decide)) rfl ?_
    intro b5
    rw [show flat [] = [] from rfl]
    refine WL.view (fun w h => h.blkOwn (b := b5) (size := 1) (n := 0) (by repeat (first | exact Take1.head | apply Take1.tail)) (by unfold maxLen; omega) rfl) ?_
    refine WL.y (Yl.move rfl) rfl ?_
    refine WL.to (To.append sl25 rfl rfl (by repeat (first | exact Take1.head | apply Take1.tail)) (Reads.s hx) (vtM.ones _) (Nat.zero_add _) (List.nil_append _) (by unfold maxLen; omega) (by omega)) rfl ?_
    rintro ⟨⟨ao7, c7⟩, hc7⟩
    dsimp only at hc7 ⊢
    refine WL.y (Yl.assign rfl) rfl ?_
    refine WL.nil ?_
    refine WC.ret ?_
    repeat (first | (with_reducible refine peelT ?_) | (with_reducible refine peelB ?_) | (with_reducible refine peelTX ?_) | (with_reducible refine peelBX ?_) | (with_reducible refine peelBN ?_) | (with_reducible refine peelBO rfl ?_))
    exact ret1 (.inr rfl) Try.results33 rfl fun w' h => ⟨(ao7, c7), trivial, rfl, h.sub (by repeat (first | exact TakeL.nil | (apply TakeL.cons; · repeat (first | exact Take1.head | apply Take1.tail))))⟩
set_option maxRecDepth 100000 in
theorem idxM_any (b1 b3 kb mb : Nat) (m : MpT) (hm : MpG m) (l : List (Option Tm)) (y : Option Addr × Nat) (aw : Option Addr) (cw : Nat) (ws : List Sl) (hG : SlAll ws) (hl : l.length + ws.length ≤ 100000000) (w : World) (hw : OK w (fpL (ownR (.slice aw ws.length cw) 34 1 ws.length (vcs slV ws) :: cloR b1 b3 kb mb m l y)) (ownR (.slice aw ws.length cw) 34 1 ws.length (vcs slV ws) :: cloR b1 b3 kb mb m l y) w) :
    Fn Try.prog 46 [.slice aw ws.length cw, .func (.func 36) #[] #[.pointer (some ⟨b3, 0, none⟩), .pointer (some ⟨b1, 0, none⟩)]] (ownR (.slice aw ws.length cw) 34 1 ws.length (vcs slV ws) :: cloR b1 b3 kb mb m l y) w (fun _ : Option Addr × Nat => True)
      (fun _ => .int .i64 (if hitF (opB m) ws = ws.length then -1 else (hitF (opB m) ws : Int))) (fun z => ownR (.slice aw ws.length cw) 34 1 ws.length (vcs slV ws) :: cloR b1 b3 kb mb m (l ++ opn m (ws.take (hitF (opB m) ws + 1))) z) := by
  refine enterF Try.func46 rfl Try.ntmps46 rfl hw ?_
  refine WC.seq ?_
  refine WC.region ?_
  refine WL.y (Yl.assign rfl) rfl ?_
  refine WL.nil ?_
  refine WC.seq ?_
  refine WC.seq ?_
  refine WC.region ?_
  refine WL.y (Yl.move rfl) rfl ?_
  refine WL.y (Yl.len un25 rfl) rfl ?_
  refine WL.y (Yl.move rfl) rfl ?_
  refine WL.nil ?_
  refine WC.block ?_
  refine WC.loop (α := Nat × (Option Addr × Nat)) (fun j => [(0, .slice aw ws.length cw), (1, .func (.func 36) #[] #[.pointer (some ⟨b3, 0, none⟩), .pointer (some ⟨b1, 0, none⟩)]), (7, .int .i64 (ws.length : Int)), (8, .int .i64 (j.1 : Int))]) (fun j => ownR (.slice aw ws.length cw) 34 1 ws.length (vcs slV ws) :: cloR b1 b3 kb mb m l j.2) (fun j => j.1 ≤ ws.length ∧ ∀ x ∈ ws.take j.1, opB m x = false) (fun j => ws.length - j.1) (0, y) ⟨Nat.zero_le _, by simp⟩ ⟨(by repeat (first | exact Sub.nil | refine Sub.cons rfl ?_)), _, (by repeat (first | exact TakeL.nil | (apply TakeL.cons; · repeat (first | exact Take1.head | apply Take1.tail))))⟩ ?_
  rintro ⟨j, z⟩ ⟨hj, hno⟩
  dsimp only at hj hno ⊢
  refine WC.seq ?_
  refine WC.region ?_
  refine WL.y (Yl.lss rfl rfl) rfl ?_
  refine WL.nil ?_
  refine WC.seq ?_
  refine WC.condD rfl (fun g9 => ?_) (fun g9 => ?_)
  · refine WC.skip ?_
    refine WC.seq ?_
    refine WC.block ?_
    refine WC.seq ?_
    refine WC.region ?_
    refine WL.y (Yl.move rfl) rfl ?_
    refine WL.y (Yl.assign rfl) rfl ?_
    refine WL.nil ?_
    refine WC.seq ?_
    refine WC.region ?_
    obtain ⟨x, hx0⟩ : ∃ x, ws[j]? = some x := ⟨_, List.getElem?_eq_getElem (by omega)⟩
    have hfl : opn m (ws.take (j + 1)) = if opB m x then [some x.2] else [] := by
      unfold opn
      rw [filter_at hx0, filter_none hno, List.nil_append]
      cases opB m x <;> rfl
    refine WL.y (Yl.move rfl) rfl ?_
    refine WL.y (Yl.move rfl) rfl ?_
    refine WL.y (Yl.move rfl) rfl ?_
    refine WL.y (Yl.index un25 sz34 rfl rfl (Reads.of RdOf.own (by repeat (first | exact Take1.head | apply Take1.tail))) rfl (by omega)) rfl ?_
    refine WL.y (Yl.loadV (j := j) (u := x) vtSl hG rfl (Reads.of RdOf.own (by repeat (first | exact Take1.head | apply Take1.tail))) rfl hx0) rfl ?_
    refine WL.callC (f := .tmp 11) (xs := [.tmp 15]) (cap := [.pointer (some ⟨b3, 0, none⟩), .pointer (some ⟨b1, 0, none⟩)]) rfl rfl en36 (by repeat (first | exact TakeL.nil | (apply TakeL.cons; · repeat (first | exact Take1.head | apply Take1.tail)))) (fun w hw => clo_any b1 b3 kb mb m hm l z (by omega) x (hG.get hx0) w hw.left.here) rfl ?_
    rintro z16 -
    rw [← hfl]
    refine WL.nil ?_
    refine WC.cond rfl (fun g16 => ?_) (fun g16 => ?_)
    · refine WC.seq ?_
      refine WC.region ?_
      refine WL.y (Yl.move rfl) rfl ?_
      refine WL.y (Yl.assign rfl) rfl ?_
      refine WL.nil ?_
      refine WC.ret ?_
      repeat (first | (with_reducible refine peelT ?_) | (with_reducible refine peelB ?_) | (with_reducible refine peelTX ?_) | (with_reducible refine peelBX ?_) | (with_reducible refine peelBN ?_) | (with_reducible refine peelBO rfl ?_))
      have e : hitF (opB m) ws = j := hit_at hx0 hno (by simpa using g16)
      rw [e, if_neg (by omega)]
      exact ret1 (.inr rfl) Try.results46 rfl fun w' h => ⟨z16, trivial, rfl, h.sub (by repeat (first | exact TakeL.nil | (apply TakeL.cons; · repeat (first | exact Take1.head | apply Take1.tail))))⟩
    · refine WC.skip ?_
      refine WC.region ?_
      refine WL.y (Yl.add rfl rfl (IntWalk.i64_in _ (by omega))) rfl ?_
      refine WL.y (Yl.move rfl) rfl ?_
      refine WL.nil ?_
      have hb : opB m x = false := by simpa using g16
      rw [hb] at hfl
      rw [hfl]
      simp only [Bool.false_eq_true, if_false, List.append_nil]
      exact ⟨rfl, (j + 1, z16), ⟨by dsimp only; omega, hno_next hx0 hno hb⟩, by dsimp only; omega, (by repeat (first | exact Sub.nil | refine Sub.cons rfl ?_)), _, (by repeat (first | exact TakeL.nil | (apply TakeL.cons; · repeat (first | exact Take1.head | apply Take1.tail))))⟩
  · refine WC.exit ?_
    refine WC.seq ?_
    refine WC.region ?_
    refine WL.y (Yl.assign rfl) rfl ?_
    refine WL.nil ?_
    refine WC.ret ?_
    repeat (first | (with_reducible refine peelT ?_) | (with_reducible refine peelB ?_) | (with_reducible refine peelTX ?_) | (with_reducible refine peelBX ?_) | (with_reducible refine peelBN ?_) | (with_reducible refine peelBO rfl ?_))
    have hjn : j = ws.length := by omega
    subst hjn
    rw [List.take_length] at hno
    have e : opn m (ws.take (hitF (opB m) ws + 1)) = [] := by
      unfold opn
      rw [filter_none (fun x hx => hno x (List.mem_of_mem_take hx))]
      rfl
    rw [e, hit_end hno, if_pos rfl, List.append_nil]
    exact ret1 (.inr rfl) Try.results46 rfl fun w' h => ⟨z, trivial, rfl, h.sub (by repeat (first | exact TakeL.nil | (apply TakeL.cons; · repeat (first | exact Take1.head | apply Take1.tail))))⟩
theorem opn_next {m : MpT} {ws : List Sl} {j : Nat} {x : Sl} (hx : ws[j]? = some x) : opn m (ws.take (j + 1)) = opn m (ws.take j) ++ if opB m x then [some x.2] else [] := by
  unfold opn
  rw [filter_at hx, List.map_append]
  cases opB m x <;> rfl
theorem opn_le (m : MpT) (ws : List Sl) (j : Nat) : (opn m (ws.take j)).length ≤ j := by
  unfold opn
  rw [List.length_map]
  have := List.length_filter_le (opB m) (ws.take j)
  rw [List.length_take] at this
  omega
set_option maxRecDepth 100000 in
theorem delM_any (b1 b3 kb mb : Nat) (m : MpT) (hm : MpG m) (l : List (Option Tm)) (y : Option Addr × Nat) (aw : Option Addr) (cw : Nat) (ws : List Sl) (hG : SlAll ws) (hl : l.length + ws.length ≤ 100000000) (w : World) (hw : OK w (fpL (ownR (.slice aw ws.length cw) 34 1 ws.length (vcs slV ws) :: cloR b1 b3 kb mb m l y)) (ownR (.slice aw ws.length cw) 34 1 ws.length (vcs slV ws) :: cloR b1 b3 kb mb m l y) w) :
    Fn Try.prog 35 [.slice aw ws.length cw, .func (.func 36) #[] #[.pointer (some ⟨b3, 0, none⟩), .pointer (some ⟨b1, 0, none⟩)]] (ownR (.slice aw ws.length cw) 34 1 ws.length (vcs slV ws) :: cloR b1 b3 kb mb m l y) w (fun _ : (Option Addr × Nat) × (Option Addr × Nat) => True)
      (fun z => .slice z.1.1 (ws.filter fun x => !opB m x).length z.1.2) (fun z => ownR (.slice z.1.1 (ws.filter fun x => !opB m x).length z.1.2) 34 1 (ws.filter fun x => !opB m x).length (vcs slV (ws.filter fun x => !opB m x)) :: cloR b1 b3 kb mb m (l ++ opn m ws) z.2) := by
  obtain ⟨_, _, he, hcl, hml⟩ := (hw.get .head : Sown _ _ _ _ _ _).rd.form
  cases he
  have hhl := hit_le (opB m) ws
  refine enterF Try.func35 rfl Try.ntmps35 rfl hw ?_
  refine WC.seq ?_
  refine WC.region ?_
  refine WL.y (Yl.assign rfl) rfl ?_
  refine WL.nil ?_
  refine WC.seq ?_
  refine WC.region ?_
  refine WL.y (Yl.move rfl) rfl ?_
  refine WL.y (Yl.move rfl) rfl ?_
  refine WL.callC (xs := [.tmp 8, .tmp 9]) (cap := []) rfl rfl en46 (by repeat (first | exact TakeL.nil | (apply TakeL.cons; · repeat (first | exact Take1.head | apply Take1.tail)))) (fun w hw => idxM_any b1 b3 kb mb m hm l y aw cw ws hG hl w hw.left.here) rfl ?_
  rintro z10 -
  refine WL.y (Yl.assign rfl) rfl ?_
  refine WL.nil ?_
  refine WC.seq ?_
  refine WC.seq ?_
  refine WC.region ?_
  refine WL.y (Yl.move rfl) rfl ?_
  refine WL.y (Yl.eql rfl rfl) rfl ?_
  refine WL.nil ?_
  refine WC.condD rfl (fun g12 => ?_) (fun g12 => ?_)
  · refine WC.seq ?_
    refine WC.region ?_
    refine WL.y (Yl.move rfl) rfl ?_
    refine WL.y (Yl.assign rfl) rfl ?_
    refine WL.nil ?_
    refine WC.ret ?_
    repeat (first | (with_reducible refine peelT ?_) | (with_reducible refine peelB ?_) | (with_reducible refine peelTX ?_) | (with_reducible refine peelBX ?_) | (with_reducible refine peelBN ?_) | (with_reducible refine peelBO rfl ?_))
    have hh : hitF (opB m) ws = ws.length := by
      by_cases hh : hitF (opB m) ws = ws.length
      · exact hh
      · rw [if_neg hh] at g12; omega
    rw [show (ws.filter fun x => !opB m x) = ws from hit_none hh, hh, List.take_of_length_le (Nat.le_succ _)]
    exact ret1 (.inr rfl) Try.results35 rfl fun w' h => ⟨((aw, cw), z10), trivial, rfl, h.sub (by repeat (first | exact TakeL.nil | (apply TakeL.cons; · repeat (first | exact Take1.head | apply Take1.tail))))⟩
  · refine WC.skip ?_
    refine WC.seq ?_
    refine WC.seq ?_
    refine WC.region ?_
    have hh : ¬ hitF (opB m) ws = ws.length := by
      intro hh
      rw [if_pos hh] at g12
      exact g12 rfl
    rw [if_neg hh]
    refine WL.y (Yl.move rfl) rfl ?_
    refine WL.y (Yl.add rfl rfl (IntWalk.i64_in _ (by omega))) rfl ?_
    refine WL.say (t := 15) (v' := .int .i64 ((hitF (opB m) ws + 1 : Nat) : Int)) rfl (by rfl) ?_
    refine WL.y (Yl.assign rfl) rfl ?_
    refine WL.nil ?_
    refine WC.block ?_
    refine WC.loop (α := (Nat × Nat × List Sl) × (Option Addr × Nat)) (fun q => [(0, .slice aw ws.length cw), (1, .func (.func 36) #[] #[.pointer (some ⟨b3, 0, none⟩), .pointer (some ⟨b1, 0, none⟩)]), (5, .int .i64 (q.1.1 : Int)), (6, .int .i64 (q.1.2.1 : Int))]) (fun q => ownR (.slice aw ws.length cw) 34 1 ws.length (vcs slV q.1.2.2) :: cloR b1 b3 kb mb m (l ++ opn m (ws.take q.1.2.1)) q.2) (fun q => Kept (opB m) ws q.1.1 q.1.2.1 q.1.2.2 ∧ SlAll q.1.2.2) (fun q => ws.length - q.1.2.1) ((hitF (opB m) ws, hitF (opB m) ws + 1, ws), z10) ⟨Kept.start hh, hG⟩ ⟨(by repeat (first | exact Sub.nil | refine Sub.cons rfl ?_)), _, (by repeat (first | exact TakeL.nil | (apply TakeL.cons; · repeat (first | exact Take1.head | apply Take1.tail))))⟩ ?_
    rintro ⟨⟨i, j, ys⟩, z⟩ ⟨hk, hY⟩
    dsimp only at hk hY ⊢
    have hk1 := hk.len
    have hk2 := hk.lt
    have hk3 := hk.le
    refine WC.seq ?_
    refine WC.seq ?_
    refine WC.region ?_
    refine WL.y (Yl.move rfl) rfl ?_
    refine WL.y (Yl.move rfl) rfl ?_
    refine WL.y (Yl.len un25 rfl) rfl ?_
    refine WL.y (Yl.lss rfl rfl) rfl ?_
    refine WL.nil ?_
    refine WC.condD rfl (fun g19 => ?_) (fun g19 => ?_)
    · refine WC.skip ?_
      refine WC.seq ?_
      refine WC.block ?_
      refine WC.seq ?_
      refine WC.region ?_
      refine WL.y (Yl.move rfl) rfl ?_
      refine WL.y (Yl.move rfl) rfl ?_
      obtain ⟨x, hx0⟩ : ∃ x, ws[j]? = some x := ⟨_, List.getElem?_eq_getElem (by omega)⟩
      have hxo := hG.get hx0
      have hnx := opn_next (m := m) hx0
      have hol := opn_le m ws j
      refine WL.y (Yl.index un25 sz34 rfl rfl (Reads.of RdOf.own (by repeat (first | exact Take1.head | apply Take1.tail))) rfl (by omega)) rfl ?_
      refine WL.y (Yl.loadV (j := j) (u := x) vtSl hY rfl (Reads.of RdOf.own (by repeat (first | exact Take1.head | apply Take1.tail))) hk1 (hk.get hx0)) rfl ?_
      refine WL.to (To.alloc (cs := [.string (strOfNums [])]) zr34 rfl) rfl ?_
      intro b7
      refine WL.sto (Sto.agg sz34 rfl rfl (by repeat (first | exact Take1.head | apply Take1.tail)) (tm_ones _) rfl (by rfl) (show _ = tmC (some (sealT x.1 x.2)) from rfl)) (fun _ h => nomatch h) ?_
      refine WL.nil ?_
      refine WC.seq ?_
      refine WC.region ?_
      refine WL.y (Yl.move rfl) rfl ?_
      refine WL.y (Yl.loadN ag34 rfl (by repeat (first | exact Take1.head | apply Take1.tail)) (by rfl) (show _ = tmC (some (sealT x.1 x.2)) from rfl)) rfl ?_
      refine WL.callC (f := .tmp 26) (xs := [.tmp 27]) (cap := [.pointer (some ⟨b3, 0, none⟩), .pointer (some ⟨b1, 0, none⟩)]) rfl rfl en36 (by repeat (first | exact TakeL.nil | (apply TakeL.cons; · repeat (first | exact Take1.head | apply Take1.tail)))) (fun w hw => clo_any b1 b3 kb mb m hm (l ++ opn m (ws.take j)) z (by rw [List.length_append]; omega) x hxo w hw.left.here) rfl ?_
      rintro z28 -
      rw [List.append_assoc, ← hnx]
      refine WL.y (Yl.not rfl) rfl ?_
      refine WL.nil ?_
      refine WC.cond rfl (fun g29 => ?_) (fun g29 => ?_)
      · refine WC.seq ?_
        refine WC.region ?_
        refine WL.y (Yl.move rfl) rfl ?_
        refine WL.y (Yl.move rfl) rfl ?_
        refine WL.y (Yl.loadN ag34 rfl (by repeat (first | exact Take1.head | apply Take1.tail)) (by rfl) (show _ = tmC (some (sealT x.1 x.2)) from rfl)) rfl ?_
        refine WL.y (Yl.index un25 sz34 rfl rfl (Reads.of RdOf.own (by repeat (first | exact Take1.head | apply Take1.tail))) rfl (by omega)) rfl ?_
        refine WL.sto (Sto.elemV (j := i) (u := x) vtSl hY hxo rfl rfl (by repeat (first | exact Take1.head | apply Take1.tail)) hk1 (by omega)) (fun _ h => nomatch h) ?_
        refine WL.nil ?_
        refine WC.region ?_
        refine WL.y (Yl.move rfl) rfl ?_
        refine WL.y (Yl.add rfl rfl (IntWalk.i64_in _ (by omega))) rfl ?_
        refine WL.y (Yl.assign rfl) rfl ?_
        refine WL.nil ?_
        refine WC.region ?_
        refine WL.y (Yl.move rfl) rfl ?_
        refine WL.y (Yl.add rfl rfl (IntWalk.i64_in _ (by omega))) rfl ?_
        refine WL.y (Yl.assign rfl) rfl ?_
        refine WL.nil ?_
        exact ⟨rfl, ((i + 1, j + 1, ys.set i x), z28), ⟨hk.keep hx0 (by simpa using g29), hY.set hxo⟩, by dsimp only; omega, (by repeat (first | exact Sub.nil | refine Sub.cons rfl ?_)), _, (by repeat (first | exact TakeL.nil | (apply TakeL.cons; · repeat (first | exact Take1.head | apply Take1.tail))))⟩
      · refine WC.skip ?_
        refine WC.region ?_
        refine WL.y (Yl.move rfl) rfl ?_
        refine WL.y (Yl.add rfl rfl (IntWalk.i64_in _ (by omega))) rfl ?_
        refine WL.y (Yl.assign rfl) rfl ?_
        refine WL.nil ?_
        exact ⟨rfl, ((i, j + 1, ys), z28), ⟨hk.skip hx0 (by simpa using g29), hY⟩, by dsimp only; omega, (by repeat (first | exact Sub.nil | refine Sub.cons rfl ?_)), _, (by repeat (first | exact TakeL.nil | (apply TakeL.cons; · repeat (first | exact Take1.head | apply Take1.tail))))⟩
    · refine WC.exit ?_
      refine WC.seq ?_
      refine WC.region ?_
      have hjn : j = ws.length := by omega
      subst hjn
      refine WL.y (Yl.move rfl) rfl ?_
      refine WL.y (Yl.move rfl) rfl ?_
      refine WL.y (Yl.slice un25 sz34 rfl ⟨_, rfl⟩ rfl (by omega) (by omega)) rfl ?_
      refine WL.eff (Eff.clear sl25 (tm_ones none) rfl (by repeat (first | exact Take1.head | apply Take1.tail)) (by omega) (show _ = vcs slV (ws.filter fun x => !opB m x) by rw [vtSl.take i hY, hk.done])) ?_
      refine WL.nil ?_
      refine WC.seq ?_
      refine WC.region ?_
      refine WL.y (Yl.move rfl) rfl ?_
      refine WL.y (Yl.move rfl) rfl ?_
      refine WL.y (Yl.slice un25 sz34 rfl rfl ⟨_, rfl⟩ (by omega) (by omega)) rfl ?_
      refine WL.y (Yl.assign rfl) rfl ?_
      refine WL.nil ?_
      refine WC.ret ?_
      repeat (first | (with_reducible refine peelT ?_) | (with_reducible refine peelB ?_) | (with_reducible refine peelTX ?_) | (with_reducible refine peelBX ?_) | (with_reducible refine peelBN ?_) | (with_reducible refine peelBO rfl ?_))
      have hil : i = (ws.filter fun x => !opB m x).length := hk.ilen
      rw [← hil, List.take_length]
      exact ret1 (.inr rfl) Try.results35 rfl fun w' h => ⟨((if cw = 0 then aw else aw.map (·.add (0 * 1)), cw), z), trivial, rfl, h.sub (by repeat (first | exact TakeL.nil | (apply TakeL.cons; · repeat (first | exact Take1.head | apply Take1.tail))))⟩
end Go.Proofs.Ytifhkjcimhhaiaa

namespace Go.Proofs.Ytifhkjcimhhaiaa
open Go Go.RowKit
theorem inM_iff {m : MpT} {t : Tm} : inM m t ↔ ∃ p ∈ m, p.1 = some t := by
  unfold inM
  rw [Option.isSome_iff_ne_none, Ne, mget_none]
  constructor
  · intro h
    apply Classical.byContradiction
    intro h2
    exact h fun p hp e => h2 ⟨p, hp, e⟩
  · rintro ⟨p, hp, e⟩ h
    exact h p hp e
theorem mput_new {m : MpT} {t : Tm} (h : ¬ inM m t) : mput m (some t) () = m ++ [(some t, ())] := by
  unfold mput
  rw [if_neg (show ¬ (mget m (some t)).isSome = true from h)]
theorem inM_snoc {m : MpT} {t u : Tm} : inM (m ++ [(some t, ())]) u ↔ inM m u ∨ u = t := by
  rw [inM_iff, inM_iff]
  constructor
  · rintro ⟨p, hp, e⟩
    rcases List.mem_append.1 hp with hp | hp
    · exact .inl ⟨p, hp, e⟩
    · simp at hp
      subst hp
      simp at e
      exact .inr e.symm
  · rintro (⟨p, hp, e⟩ | rfl)
    · exact ⟨p, List.mem_append_left _ hp, e⟩
    · exact ⟨_, List.mem_append_right _ (List.mem_singleton.2 rfl), rfl⟩
def wO (o : Option Tm) : Nat := 2 * (encO o).length + 1
def wLs (l : List (Option Tm)) : Nat := (l.map wO).sum
def wWs (ws : List Sl) : Nat := (ws.map fun p => wO (some (sealT p.1 p.2))).sum
theorem wLs_app (a b : List (Option Tm)) : wLs (a ++ b) = wLs a + wLs b := by unfold wLs; rw [List.map_append, List.sum_append]
theorem wLs_one (o : Option Tm) : wLs [o] = wO o := by unfold wLs; simp
theorem wWs_app (a b : List Sl) : wWs (a ++ b) = wWs a + wWs b := by unfold wWs; rw [List.map_append, List.sum_append]
theorem wO_pos (o : Option Tm) : 1 ≤ wO o := by unfold wO; omega
theorem wLs_len (l : List (Option Tm)) : l.length ≤ wLs l := by
  induction l with
  | nil => simp
  | cons o l ih =>
    have : wLs (o :: l) = wO o + wLs l := rfl
    have := wO_pos o
    rw [List.length_cons]
    omega
theorem wWs_len (l : List Sl) : l.length ≤ wWs l := by
  induction l with
  | nil => simp
  | cons o l ih =>
    have : wWs (o :: l) = wO (some (sealT o.1 o.2)) + wWs l := rfl
    have := wO_pos (some (sealT o.1 o.2))
    rw [List.length_cons]
    omega
/-- What is opened weighs less than what it was sealed in. -/
theorem opn_w (m : MpT) (ws : List Sl) : wLs (opn m ws) + wWs (ws.filter fun x => !opB m x) + (opn m ws).length ≤ wWs ws := by
  induction ws with
  | nil => simp [opn, wLs, wWs]
  | cons p ws ih =>
    have h1 : wWs (p :: ws) = wO (some (sealT p.1 p.2)) + wWs ws := rfl
    have h2 := seal_len p.1 p.2
    have h3 : (encO (some (sealT p.1 p.2))).length = (sealT p.1 p.2).enc.length := rfl
    have h5 : (encO (some p.2)).length = p.2.enc.length := rfl
    have h6 : wO (some p.2) + 1 ≤ wO (some (sealT p.1 p.2)) := by unfold wO; omega
    by_cases h : opB m p = true
    · have e1 : opn m (p :: ws) = some p.2 :: opn m ws := by unfold opn; rw [List.filter_cons_of_pos h]; rfl
      have e2 : ((p :: ws).filter fun x => !opB m x) = ws.filter fun x => !opB m x := by rw [List.filter_cons_of_neg (by simp [h])]
      have e3 : wLs (some p.2 :: opn m ws) = wO (some p.2) + wLs (opn m ws) := rfl
      rw [e1, e2, e3, h1, List.length_cons]
      omega
    · have e1 : opn m (p :: ws) = opn m ws := by unfold opn; rw [List.filter_cons_of_neg h]
      have e2 : ((p :: ws).filter fun x => !opB m x) = p :: ws.filter fun x => !opB m x := by rw [List.filter_cons_of_pos (by simp [h])]
      have e3 : wWs (p :: ws.filter fun x => !opB m x) = wO (some (sealT p.1 p.2)) + wWs (ws.filter fun x => !opB m x) := rfl
      rw [e1, e2, e3, h1]
      omega
def GvT (g : List (Option Tm)) (t : Tm) : Prop := some t ∈ g
def LmT (o : Option Tm) : Prop := OkO o ∧ (encO o).length ≤ 400000
/-- What the loops of Close keep, of what was given. -/
structure CI (g l : List (Option Tm)) (ws : List Sl) (m : MpT) : Prop where
  wsm : ∀ p ∈ ws, inM m (sealT p.1 p.2)
  sm : ∀ t, inM m t → ClP (GvT g) t
  sl : ∀ t, some t ∈ l → ClP (GvT g) t
  full : ∀ t, some t ∈ g → inM m t ∨ some t ∈ l
  pair : ∀ a b, inM m (pairT a b) → (inM m a ∨ some a ∈ l) ∧ (inM m b ∨ some b ∈ l)
  sld : ∀ k x, inM m (sealT k x) → (k, x) ∈ ws ∨ inM m x ∨ some x ∈ l
  lok : ∀ o ∈ l, LmT o
  mok : ∀ p ∈ m, LmT p.1
  nn : ∀ p ∈ m, p.1 ≠ none
theorem LmT.g {o : Option Tm} (h : LmT o) : GTm o := ⟨h.1, Nat.le_trans h.2 (by decide)⟩
theorem CI.mg {g l : List (Option Tm)} {ws : List Sl} {m : MpT} (h : CI g l ws m) : MpG m := fun p hp => (h.mok p hp).g
theorem CI.lo {g l : List (Option Tm)} {ws : List Sl} {m : MpT} (h : CI g l ws m) : AllO l := fun o ho => (h.lok o ho).1
theorem CI.im {g l : List (Option Tm)} {ws : List Sl} {m : MpT} (h : CI g l ws m) {t : Tm} (ht : inM m t) : LmT (some t) := by
  obtain ⟨p, hp, e⟩ := inM_iff.1 ht
  rw [← e]
  exact h.mok p hp
theorem seal_parts {k x : Tm} (h : (sealT k x).ok) : k.ok ∧ x.ok := by
  have := oks_all.1 ((ok_mk _ _ _).1 h).2
  exact ⟨this k (by simp), this x (by simp)⟩
theorem pair_parts {k x : Tm} (h : (pairT k x).ok) : k.ok ∧ x.ok := by
  have := oks_all.1 ((ok_mk _ _ _).1 h).2
  exact ⟨this k (by simp), this x (by simp)⟩
theorem LmT.sl {k x : Tm} (h : LmT (some (sealT k x))) : SlG (k, x) := by
  obtain ⟨h1, h2⟩ := seal_parts (h.1 _ rfl)
  exact ⟨h1, h2, Nat.le_trans h.2 (by decide)⟩
theorem lm_of {t : Tm} {n : Nat} (h : t.ok) (hn : t.enc.length ≤ n) (hn2 : n ≤ 400000) : LmT (some t) := ⟨fun s hs => by cases hs; exact h, Nat.le_trans hn hn2⟩
theorem CI.ws {g l : List (Option Tm)} {ws : List Sl} {m : MpT} (h : CI g l ws m) : SlAll ws := fun p hp => (h.im (h.wsm p hp)).sl
theorem CI.start {g : List (Option Tm)} (hg : ∀ o ∈ g, LmT o) : CI g g [] [] := by
  have no : ∀ t, ¬ inM [] t := fun t h => by obtain ⟨p, hp, _⟩ := inM_iff.1 h; cases hp
  exact ⟨(fun p hp => nomatch hp), fun t h => (no t h).elim, fun t h => cl_in h, fun t h => .inr h, fun a b h => (no _ h).elim, fun a b h => (no _ h).elim, hg, (fun p hp => nomatch hp), (fun p hp => nomatch hp)⟩
section
variable {g l : List (Option Tm)} {ws : List Sl} {m : MpT}
theorem CI.skip {o : Option Tm} (h : CI g (l ++ [o]) ws m) (ho : ∀ t, o = some t → inM m t) : CI g l ws m := by
  have sp : ∀ {t}, inM m t ∨ some t ∈ l ++ [o] → inM m t ∨ some t ∈ l := by
    rintro t (q | q)
    · exact .inl q
    · rcases List.mem_append.1 q with q | q
      · exact .inr q
      · exact .inl (ho t (List.mem_singleton.1 q).symm)
  exact ⟨h.wsm, h.sm, fun t q => h.sl t (List.mem_append_left _ q), fun t q => sp (h.full t q), fun a b q => ⟨sp (h.pair a b q).1, sp (h.pair a b q).2⟩, fun k x q => (h.sld k x q).imp id sp, fun o q => h.lok o (List.mem_append_left _ q), h.mok, h.nn⟩
/-- One more is known; what it is made of is to come. -/
theorem CI.more {t : Tm} (h : CI g (l ++ [some t]) ws m) (l2 : List (Option Tm)) (ws2 : List Sl) (hl2 : ∀ o ∈ l2, LmT o) (hs2 : ∀ u, some u ∈ l2 → ClP (GvT g) u) (hw2 : ∀ p ∈ ws2, t = sealT p.1 p.2)
    (hp : ∀ a b, t = pairT a b → some a ∈ l2 ∧ some b ∈ l2) (hs : ∀ k x, t = sealT k x → (k, x) ∈ ws2) : CI g (l ++ l2) (ws ++ ws2) (m ++ [(some t, ())]) := by
  have sp : ∀ {u}, inM m u ∨ some u ∈ l ++ [some t] → inM (m ++ [(some t, ())]) u ∨ some u ∈ l ++ l2 := by
    rintro u (q | q)
    · exact .inl (inM_snoc.2 (.inl q))
    · rcases List.mem_append.1 q with q | q
      · exact .inr (List.mem_append_left _ q)
      · have := List.mem_singleton.1 q
        injection this with this
        exact .inl (inM_snoc.2 (.inr this))
  have ht : ClP (GvT g) t := h.sl t (List.mem_append_right _ (List.mem_singleton.2 rfl))
  refine ⟨fun p q => ?_, fun u q => ?_, fun u q => ?_, fun u q => sp (h.full u q), fun a b q => ?_, fun k x q => ?_, fun o q => ?_, fun p q => ?_, fun p q => ?_⟩
  · rcases List.mem_append.1 q with q | q
    · exact inM_snoc.2 (.inl (h.wsm p q))
    · exact inM_snoc.2 (.inr (hw2 p q).symm)
  · rcases inM_snoc.1 q with q | q
    · exact h.sm u q
    · rw [q]; exact ht
  · rcases List.mem_append.1 q with q | q
    · exact h.sl u (List.mem_append_left _ q)
    · exact hs2 u q
  · rcases inM_snoc.1 q with q | q
    · exact ⟨sp (h.pair a b q).1, sp (h.pair a b q).2⟩
    · have := hp a b q.symm
      exact ⟨.inr (List.mem_append_right _ this.1), .inr (List.mem_append_right _ this.2)⟩
  · rcases inM_snoc.1 q with q | q
    · rcases h.sld k x q with q | q
      · exact .inl (List.mem_append_left _ q)
      · exact .inr (sp q)
    · exact .inl (List.mem_append_right _ (hs k x q.symm))
  · rcases List.mem_append.1 q with q | q
    · exact h.lok o (List.mem_append_left _ q)
    · exact hl2 o q
  · rcases List.mem_append.1 q with q | q
    · exact h.mok p q
    · rw [List.mem_singleton.1 q]
      exact h.lok _ (List.mem_append_right _ (List.mem_singleton.2 rfl))
  · rcases List.mem_append.1 q with q | q
    · exact h.nn p q
    · rw [List.mem_singleton.1 q]
      simp
theorem CI.opened (h : CI g [] ws m) : CI g (opn m ws) (ws.filter fun x => !opB m x) m := by
  have sp : ∀ {u}, inM m u ∨ some u ∈ ([] : List (Option Tm)) → inM m u ∨ some u ∈ opn m ws := fun q => q.elim .inl fun q => nomatch q
  have hin : ∀ o, o ∈ opn m ws → ∃ p ∈ ws, opB m p = true ∧ some p.2 = o := by
    intro o q
    unfold opn at q
    obtain ⟨p, hp, e⟩ := List.mem_map.1 q
    exact ⟨p, (List.mem_filter.1 hp).1, (List.mem_filter.1 hp).2, e⟩
  refine ⟨fun p q => h.wsm p (List.mem_filter.1 q).1, h.sm, fun u q => ?_, fun u q => sp (h.full u q), fun a b q => ⟨sp (h.pair a b q).1, sp (h.pair a b q).2⟩, fun k x q => ?_, fun o q => ?_, h.mok, h.nn⟩
  · obtain ⟨p, hp, hb, e⟩ := hin _ q
    injection e with e
    rw [← e]
    exact (cl_shut _).sld p.1 p.2 (h.sm _ (h.wsm p hp)) (can_mono h.sm _ (canB_iff.1 hb))
  · rcases h.sld k x q with q | q
    · by_cases hb : opB m (k, x) = true
      · exact .inr (.inr (List.mem_map.2 ⟨(k, x), List.mem_filter.2 ⟨q, hb⟩, rfl⟩))
      · exact .inl (List.mem_filter.2 ⟨q, by simp [hb]⟩)
    · exact .inr (sp q)
  · obtain ⟨p, hp, hb, rfl⟩ := hin _ q
    have h1 := h.im (h.wsm p hp)
    have h2 := seal_len p.1 p.2
    have h3 := h1.2
    have h4 : (encO (some (sealT p.1 p.2))).length = (sealT p.1 p.2).enc.length := rfl
    exact lm_of (seal_parts (h1.1 _ rfl)).2 (n := p.2.enc.length) (Nat.le_refl _) (by omega)
theorem CI.done (h : CI g [] ws m) (hn : ∀ p ∈ ws, opB m p = false) (t : Tm) : inM m t ↔ ClP (GvT g) t := by
  refine ⟨h.sm t, fun q => q (inM m) (fun u hu => (h.full u hu).elim id fun q => nomatch q) ⟨fun a b q => ?_, fun k x q hk => ?_⟩⟩
  · have := h.pair a b q
    exact ⟨this.1.elim id fun q => (nomatch q), this.2.elim id fun q => (nomatch q)⟩
  · rcases h.sld k x q with q | q | q
    · have := hn _ q
      rw [show opB m (k, x) = canB m (some k) from rfl, canB_iff.2 hk] at this
      cases this
    · exact q
    · exact nomatch q
end
theorem opn_nil {m : MpT} {ws : List Sl} (h : opn m ws = []) : ∀ p ∈ ws, opB m p = false := by
  intro p hp
  cases hb : opB m p with
  | false => rfl
  | true =>
    have : some p.2 ∈ opn m ws := List.mem_map.2 ⟨p, List.mem_filter.2 ⟨hp, hb⟩, rfl⟩
    rw [h] at this
    cases this
end Go.Proofs.Ytifhkjcimhhaiaa

namespace Go.Proofs.Ytifhkjcimhhaiaa
open Go Go.RowKit
structure ClS where
  l : List (Option Tm)
  y : Option Addr × Nat
  ws : List Sl
  x : Option Addr × Nat
  m : MpT
def clsE (b1 b3 : Nat) (s : ClS) : Env := [(1, .pointer (some ⟨b1, 0, none⟩)), (2, .pointer none), (3, .pointer (some ⟨b3, 0, none⟩)), (4, .slice s.x.1 s.ws.length s.x.2)]
def clsR (b1 b3 kb mb : Nat) (s : ClS) : List Res := [blkR b1 25 [.slice s.y.1 s.l.length s.y.2], ownR (.slice s.y.1 s.l.length s.y.2) 34 1 s.l.length (vcs tmV s.l), blkR b3 45 [.pointer (some ⟨kb, 0, none⟩)], blkR kb 78 [.map (some mb)], mapR tmV unV mb s.m, ownR (.slice s.x.1 s.ws.length s.x.2) 34 1 s.ws.length (vcs slV s.ws)]
set_option maxRecDepth 100000 in
set_option maxHeartbeats 1600000 in
theorem close_any (g : List (Option Tm)) (hg : ∀ o ∈ g, LmT o) (hgw : wLs g ≤ 50000000) (v : Value) (w : World) (hx : RdS w (fpL []) v 1 g.length (vcs tmV g)) (hw : OK w (fpL []) [] w) :
    Fn Try.prog 13 [v] [] w (fun y : Nat × Nat × MpT => (∀ t, inM y.2.2 t ↔ ClP (GvT g) t) ∧ (∀ p ∈ y.2.2, LmT p.1 ∧ p.1 ≠ none)) (fun y => .pointer (some ⟨y.1, 0, none⟩)) (fun y => [blkR y.1 78 [.map (some y.2.1)], mapR tmV unV y.2.1 y.2.2]) := by
  obtain ⟨al, cl, rfl, hcl, hml⟩ := hx.rd.form
  have hgl := wLs_len g
  refine enterF Try.func13 rfl Try.ntmps13 rfl hw ?_
  refine WC.seq ?_
  refine WC.region ?_
  refine WL.to (To.box (cs := [.slice al g.length cl]) rfl rfl) rfl ?_
  intro b1
  refine WL.y (Yl.assign rfl) rfl ?_
  refine WL.nil ?_
  refine WC.seq ?_
  refine WC.region ?_
  refine WL.to (To.makeMap tmV unV) rfl ?_
  intro b10
  refine WL.y (Yl.build rfl (cs := [.map (some b10)]) (fun _ => by kernel_rfl)) rfl ?_
  refine WL.to (To.box (cs := [.map (some b10)]) rfl rfl) rfl ?_
  intro b12
  refine WL.to (To.alloc (cs := [.pointer none]) zr45 rfl) rfl ?_
  intro b3
  refine WL.sto (Sto.one sz45 rfl rfl (by repeat (first | exact Take1.head | apply Take1.tail)) rfl (by rfl) (by rfl)) (fun _ h => nomatch h) ?_
  refine WL.nil ?_
  refine WC.seq ?_
  refine WC.region ?_
  refine WL.y (Yl.assign rfl) rfl ?_
  refine WL.nil ?_
  refine WC.seq ?_
  refine WC.region ?_
  refine WL.y (Yl.load on25 rfl (by repeat (first | exact Take1.head | apply Take1.tail)) (by rfl)) rfl ?_
  refine WL.callC (xs := [.tmp 13]) (cap := []) rfl rfl en33 (by repeat (first | exact TakeL.nil | (apply TakeL.cons; · repeat (first | exact Take1.head | apply Take1.tail)))) (fun w hw => cloneM_any _ g (by omega) w (hw.srcS (A := []) hx) hw.left.here) rfl ?_
  rintro y14 -
  dsimp only [List.cons_append, List.nil_append]
  refine WL.sto (Sto.one sz25 rfl rfl (by repeat (first | exact Take1.head | apply Take1.tail)) rfl (by rfl) (by rfl)) (fun _ h => nomatch h) ?_
  refine WL.nil ?_
  refine WC.block ?_
  refine WC.view (fun w h => h.addNil 34 1) ?_
  refine WC.loop (α := ClS) (clsE b1 b3) (clsR b1 b3 b12 b10) (fun s => CI g s.l s.ws s.m ∧ wLs s.l + wWs s.ws ≤ 50000000) (fun s => wLs s.l + wWs s.ws) ⟨g, y14, [], (none, 0), []⟩ ⟨CI.start hg, by dsimp only; show wLs g + 0 ≤ _; omega⟩ ⟨(by repeat (first | exact Sub.nil | refine Sub.cons rfl ?_)), _, (by repeat (first | exact TakeL.nil | (apply TakeL.cons; · repeat (first | exact Take1.head | apply Take1.tail))))⟩ ?_
  rintro ⟨L0, y0, W0, x0, M0⟩ ⟨hci0, hwt0⟩
  dsimp only [clsE, clsR] at hci0 hwt0 ⊢
  refine WC.block ?_
  refine WC.seq ?_
  refine WC.block ?_
  refine WC.loop (α := ClS) (clsE b1 b3) (clsR b1 b3 b12 b10) (fun s => CI g s.l s.ws s.m ∧ wLs s.l + wWs s.ws ≤ wLs L0 + wWs W0) (fun s => wLs s.l) ⟨L0, y0, W0, x0, M0⟩ ⟨hci0, Nat.le_refl _⟩ ⟨(by repeat (first | exact Sub.nil | refine Sub.cons rfl ?_)), _, (by repeat (first | exact TakeL.nil | (apply TakeL.cons; · repeat (first | exact Take1.head | apply Take1.tail))))⟩ ?_
  rintro ⟨l, y, ws, x, m⟩ ⟨hci, hwt⟩
  dsimp only [clsE, clsR] at hci hwt ⊢
  refine WC.seq ?_
  refine WC.seq ?_
  refine WC.region ?_
  refine WL.y (Yl.load on25 rfl (by repeat (first | exact Take1.head | apply Take1.tail)) (by rfl)) rfl ?_
  refine WL.y (Yl.len un25 rfl) rfl ?_
  refine WL.y (Yl.gtr rfl rfl) rfl ?_
  refine WL.nil ?_
  refine WC.condD rfl (fun g17 => ?_) (fun g17 => ?_)
  · refine WC.skip ?_
    refine WC.block ?_
    refine WC.seq ?_
    refine WC.region ?_
    obtain ⟨l, o, rfl⟩ : ∃ l' o, l = l' ++ [o] := by
      refine ⟨l.dropLast, l.getLast (by rintro rfl; simp at g17), (List.dropLast_concat_getLast _).symm⟩
    have hsum := wLs_app l [o]
    rw [wLs_one] at hsum
    have hop := wO_pos o
    have hol := hci.lok o (by simp)
    have hgo := hol.g
    have hll : (l ++ [o]).length = l.length + 1 := by simp
    have hlw := wLs_len l
    refine WL.fact (fun w h => Sown.le (h.get (r := ownR (.slice y.1 (l ++ [o]).length y.2) 34 1 (l ++ [o]).length (vcs tmV (l ++ [o]))) (by repeat (first | exact Take1.head | apply Take1.tail)))) (fun hle => ?_)
    refine WL.y (Yl.load on25 rfl (by repeat (first | exact Take1.head | apply Take1.tail)) (by rfl)) rfl ?_
    refine WL.y (Yl.load on25 rfl (by repeat (first | exact Take1.head | apply Take1.tail)) (by rfl)) rfl ?_
    refine WL.y (Yl.len un25 rfl) rfl ?_
    refine WL.y (Yl.sub rfl rfl (IntWalk.i64_in _ (by omega))) rfl ?_
    refine WL.say (t := 21) (v' := .int .i64 (l.length : Nat)) rfl (by (refine congrArg (Value.int .i64) ?_; rw [hll]; push_cast; omega)) ?_
    refine WL.y (Yl.index un25 sz34 rfl rfl (Reads.of RdOf.own (by repeat (first | exact Take1.head | apply Take1.tail))) rfl (by omega)) rfl ?_
    refine WL.y (Yl.loadV (j := l.length) (u := o) vtM hci.lo rfl (Reads.of RdOf.own (by repeat (first | exact Take1.head | apply Take1.tail))) rfl (by simp)) rfl ?_
    refine WL.to (To.alloc (cs := [.string (strOfNums [])]) zr34 rfl) rfl ?_
    intro b5
    refine WL.sto (Sto.agg sz34 rfl rfl (by repeat (first | exact Take1.head | apply Take1.tail)) (tm_ones _) rfl (by rfl) (show _ = tmC o from rfl)) (fun _ h => nomatch h) ?_
    refine WL.nil ?_
    refine WC.seq ?_
    refine WC.region ?_
    refine WL.y (Yl.load on25 rfl (by repeat (first | exact Take1.head | apply Take1.tail)) (by rfl)) rfl ?_
    refine WL.y (Yl.load on25 rfl (by repeat (first | exact Take1.head | apply Take1.tail)) (by rfl)) rfl ?_
    refine WL.y (Yl.len un25 rfl) rfl ?_
    refine WL.y (Yl.sub rfl rfl (IntWalk.i64_in _ (by omega))) rfl ?_
    refine WL.say (t := 27) (v' := .int .i64 (l.length : Nat)) rfl (by (refine congrArg (Value.int .i64) ?_; rw [hll]; push_cast; omega)) ?_
    refine WL.y (Yl.slice un25 sz34 rfl rfl ⟨_, rfl⟩ (by omega) (by omega)) rfl ?_
    obtain ⟨ya, hya⟩ : ∃ a, (if y.2 = 0 then y.1 else y.1.map (·.add (0 * 1))) = a := ⟨_, rfl⟩
    refine WL.say (t := 28) (v' := .slice ya l.length y.2) rfl (by rw [← hya]; rfl) ?_
    refine WL.view (fun w h => (show OK _ _ (ownR (.slice ya l.length y.2) 34 1 l.length (vcs tmV l) :: _) w by
      have h2 := h.subG (by repeat (first | exact Take1.head | apply Take1.tail)) (ao := y.1) (n := (l ++ [o]).length) (l := 0) (hh := l.length) (m := y.2) (Nat.zero_le _) (by omega) (Nat.le_refl _) (by omega) (cs' := vcs tmV l) (by rw [Nat.zero_mul, List.drop_zero, Nat.sub_zero, vcs_app, List.take_left' (vtM.size (fun q hq => hci.lo q (List.mem_append_left _ hq)))])
      rw [← hya]
      exact h2)) ?_
    refine WL.sto (Sto.one sz25 rfl rfl (by repeat (first | exact Take1.head | apply Take1.tail)) rfl (by rfl) (by rfl)) (fun _ h => nomatch h) ?_
    refine WL.nil ?_
    refine WC.seq ?_
    refine WC.seq ?_
    refine WC.drawAny (Hs := [blkR b3 45 [.pointer (some ⟨b12, 0, none⟩)], blkR b12 78 [.map (some b10)], blkR b5 34 (tmC o), mapR tmV unV b10 m]) mixed (by kernel_rfl) ⟨_, (by repeat (first | exact TakeL.nil | (apply TakeL.cons; · repeat (first | exact Take1.head | apply Take1.tail))))⟩ ?_
    refine WD.take 0 rfl (by kernel_rfl) (by kernel_rfl) (by kernel_rfl) rfl rfl (Yl.load on45 rfl (by repeat (first | exact Take1.head | apply Take1.tail)) (by rfl)) rfl ?_
    refine WD.take 1 rfl (by kernel_rfl) (by kernel_rfl) (by kernel_rfl) rfl rfl (Yl.nilCheck rfl) rfl ?_
    refine WD.take 2 rfl (by kernel_rfl) (by kernel_rfl) (by kernel_rfl) rfl rfl (Yl.field fo78_0 rfl) rfl ?_
    refine WD.take 3 rfl (by kernel_rfl) (by kernel_rfl) (by kernel_rfl) rfl rfl (Yl.load on59 rfl (by repeat (first | exact Take1.head | apply Take1.tail)) (by rfl)) rfl ?_
    refine WD.take 4 rfl (by kernel_rfl) (by kernel_rfl) (by kernel_rfl) rfl rfl (Yl.loadN ag34 rfl (by repeat (first | exact Take1.head | apply Take1.tail)) (by rfl) (show _ = tmC o from rfl)) rfl ?_
    refine WD.take 5 rfl (by kernel_rfl) (by kernel_rfl) (by kernel_rfl) rfl rfl (Yl.lookupOk (kv := tmV) keyTm un59 (fun _ => by kernel_rfl) (z := .agg #[]) hci.mg rfl rfl hgo (MReads.of (m := m) MapOf.own (by repeat (first | exact Take1.head | apply Take1.tail)))) rfl ?_
    refine WD.take 6 rfl (by kernel_rfl) (by kernel_rfl) (by kernel_rfl) rfl rfl (Yl.move rfl) rfl ?_
    refine WD.take 7 rfl (by kernel_rfl) (by kernel_rfl) (by kernel_rfl) rfl rfl (Yl.extract rfl rfl) rfl ?_
    refine WD.say (t := 36) (v' := .agg #[]) rfl (by (cases mget m o <;> rfl)) ?_
    refine WD.take 8 rfl (by kernel_rfl) (by kernel_rfl) (by kernel_rfl) rfl rfl (Yl.extract rfl rfl) rfl ?_
    refine WD.one 9 (by kernel_rfl) ?_
    refine WO.to rfl rfl .no (To.alloc (cs := []) zr60 rfl) rfl (fun _ => ⟨_, (by repeat (first | exact TakeL.nil | (apply TakeL.cons; · repeat (first | exact Take1.head | apply Take1.tail))))⟩) ?_
    intro b6
    refine WD.one 10 (by kernel_rfl) ?_
    refine WO.sto rfl rfl .no (Sto.agg sz60 rfl rfl (by repeat (first | exact Take1.head | apply Take1.tail)) (fun _ h => nomatch h) rfl (by rfl) (show _ = [] from rfl)) ⟨_, (by repeat (first | exact TakeL.nil | (apply TakeL.cons; · repeat (first | exact Take1.head | apply Take1.tail))))⟩ ?_
    refine WD.take 11 rfl (by kernel_rfl) (by kernel_rfl) (by kernel_rfl) rfl rfl (Yl.assign rfl) rfl ?_
    refine WD.done (by kernel_rfl) ?_
    refine WC.seq ?_
    refine WC.region ?_
    refine WL.y (Yl.move rfl) rfl ?_
    refine WL.y (Yl.move rfl) rfl ?_
    refine WL.both (t := 39) rfl (fun g39 => ?_) (fun g39 => ?_)
    · refine WL.off rfl rfl rfl rfl ?_
      refine WL.off rfl rfl rfl rfl ?_
      refine WL.off rfl rfl rfl rfl ?_
      refine WL.y (Yl.pickT rfl rfl) rfl ?_
      refine WL.nil ?_
      refine WC.condT rfl (by first | rfl | (simp; done) | (simp; omega)) ?_
      refine WC.exit ?_
      have hb : (mget m o).isSome = true := by simpa using g39
      exact ⟨rfl, ⟨l, (ya, y.2), ws, x, m⟩, ⟨hci.skip (fun t ht => by subst ht; exact hb), by dsimp only; omega⟩, by dsimp only; omega, (by repeat (first | exact Sub.nil | refine Sub.cons rfl ?_)), _, (by repeat (first | exact TakeL.nil | (apply TakeL.cons; · repeat (first | exact Take1.head | apply Take1.tail))))⟩
    · refine WL.on rfl rfl ?_
      refine WL.y (Yl.field fo34_0 rfl) rfl ?_
      refine WL.on rfl rfl ?_
      refine WL.y (Yl.load on9 rfl (by repeat (first | exact Take1.head | apply Take1.tail)) (by rfl)) rfl ?_
      refine WL.on rfl rfl ?_
      refine WL.y (Yl.sEqT (encO_bytes hol.1) bytes_nil rfl rfl) rfl ?_
      refine WL.y (Yl.pickF rfl rfl) rfl ?_
      refine WL.nil ?_
      refine WC.condD rfl (fun g43 => ?_) (fun g43 => ?_)
      · refine WC.exit ?_
        have e := encO_nil.1 g43
        subst e
        exact ⟨rfl, ⟨l, (ya, y.2), ws, x, m⟩, ⟨hci.skip (fun t ht => nomatch ht), by dsimp only; omega⟩, by dsimp only; omega, (by repeat (first | exact Sub.nil | refine Sub.cons rfl ?_)), _, (by repeat (first | exact TakeL.nil | (apply TakeL.cons; · repeat (first | exact Take1.head | apply Take1.tail))))⟩
      · refine WC.skip ?_
        refine WC.seq ?_
        obtain ⟨t, rfl⟩ : ∃ t, o = some t := by
          cases o with
          | none => exact absurd rfl g43
          | some t => exact ⟨t, rfl⟩
        have hni : ¬ inM m t := by
          unfold inM
          intro hb
          simp [hb] at g39
        have htk := hol.1 _ rfl
        have htl := hol.2
        have htc := hci.sl t (by simp)
        refine WC.drawAny (Hs := [blkR b3 45 [.pointer (some ⟨b12, 0, none⟩)], blkR b12 78 [.map (some b10)], blkR b5 34 (tmC (some t))]) mixed (by kernel_rfl) ⟨_, (by repeat (first | exact TakeL.nil | (apply TakeL.cons; · repeat (first | exact Take1.head | apply Take1.tail))))⟩ ?_
        refine WD.take 0 rfl (by kernel_rfl) (by kernel_rfl) (by kernel_rfl) rfl rfl (Yl.load on45 rfl (by repeat (first | exact Take1.head | apply Take1.tail)) (by rfl)) rfl ?_
        refine WD.take 1 rfl (by kernel_rfl) (by kernel_rfl) (by kernel_rfl) rfl rfl (Yl.nilCheck rfl) rfl ?_
        refine WD.take 2 rfl (by kernel_rfl) (by kernel_rfl) (by kernel_rfl) rfl rfl (Yl.field fo78_0 rfl) rfl ?_
        refine WD.take 3 rfl (by kernel_rfl) (by kernel_rfl) (by kernel_rfl) rfl rfl (Yl.load on59 rfl (by repeat (first | exact Take1.head | apply Take1.tail)) (by rfl)) rfl ?_
        refine WD.take 4 rfl (by kernel_rfl) (by kernel_rfl) (by kernel_rfl) rfl rfl (Yl.loadN ag34 rfl (by repeat (first | exact Take1.head | apply Take1.tail)) (by rfl) (show _ = tmC (some t) from rfl)) rfl ?_
        refine WD.take 5 rfl (by kernel_rfl) (by kernel_rfl) (by kernel_rfl) rfl rfl (Yl.build rfl (cs := []) (fun _ => by kernel_rfl)) rfl ?_
        refine WD.one 6 (by kernel_rfl) ?_
        refine WO.sto rfl rfl .no (Sto.mapPut (v := ()) (q := some t) (m := m) (kv := tmV) keyTm un59 hci.mg rfl rfl hgo rfl (by repeat (first | exact Take1.head | apply Take1.tail))) ⟨_, (by repeat (first | exact TakeL.nil | (apply TakeL.cons; · repeat (first | exact Take1.head | apply Take1.tail))))⟩ ?_
        refine WD.done (by kernel_rfl) ?_
        refine WC.seq ?_
        rw [mput_new hni]
        obtain ⟨k, nn, ps⟩ := t
        have hok := (ok_mk k nn ps).1 htk
        refine WC.region ?_
        refine WL.y (Yl.loadN ag34 rfl (by repeat (first | exact Take1.head | apply Take1.tail)) (by rfl) (show _ = tmC (some (.mk k nn ps)) from rfl)) rfl ?_
        refine WL.callC (xs := [.tmp 50]) (cap := []) rfl rfl en11 (by repeat (first | exact TakeL.nil | (apply TakeL.cons; · repeat (first | exact Take1.head | apply Take1.tail)))) (fun w hw => kind_any (some (.mk k nn ps)) hol.1 w hw.left.here) rfl ?_
        rintro ⟨⟩ -
        rw [show kdO (some (.mk k nn ps)) = k from rfl]
        refine WL.nil ?_
        refine WC.block ?_
        refine WC.seq ?_
        refine WC.region ?_
        refine WL.y (Yl.eql rfl rfl) rfl ?_
        refine WL.y (Yl.assign rfl) rfl ?_
        refine WL.nil ?_
        refine WC.condD rfl (fun g52 => ?_) (fun g52 => ?_)
        · refine WC.seq ?_
          have hk : k = 2 := g52
          obtain ⟨hn0, a, b, hps⟩ : nn = 0 ∧ ∃ a b, ps = [a, b] := by
            have h := hok.1
            unfold shp at h
            rcases h with ⟨h, _⟩ | ⟨_, h, h2⟩ | ⟨h, _⟩ | ⟨h, _⟩ | ⟨h, _⟩
            · omega
            · match ps, h2 with
              | [a, b], _ => exact ⟨h, a, b, rfl⟩
            · omega
            · omega
            · omega
          subst hk
          subst hn0
          subst hps
          have hpl := pair_len a b
          have hpp := pair_parts (k := a) (x := b) htk
          have htl : (pairT a b).enc.length ≤ 400000 := htl
          have hwa : wO (some (.mk 2 0 [a, b])) = 2 * (pairT a b).enc.length + 1 := rfl
          have hw2 : wLs [some a, some b] = wO (some a) + wO (some b) := by unfold wLs; simp
          have hw3 : wO (some a) = 2 * a.enc.length + 1 := rfl
          have hw4 : wO (some b) = 2 * b.enc.length + 1 := rfl
          have hnext : CI g (l ++ [some a, some b]) (ws ++ []) (m ++ [(some (.mk 2 0 [a, b]), ())]) := hci.more [some a, some b] []
            (fun q hq => by simp at hq; rcases hq with rfl | rfl <;> first | exact lm_of hpp.1 (n := a.enc.length) (Nat.le_refl _) (by omega) | exact lm_of hpp.2 (n := b.enc.length) (Nat.le_refl _) (by omega))
            (fun u hu => by
              have := (cl_shut (GvT g)).pair a b htc
              simp at hu
              rcases hu with rfl | rfl
              · exact this.1
              · exact this.2) (fun q hq => nomatch hq) (fun a' b' e => by unfold pairT at e; injection e with _ _ e; injection e with e1 e; injection e with e2 _; rw [e1, e2]; simp) (fun a' b' e => by unfold sealT at e; injection e with e; omega)
          rw [List.append_nil] at hnext
          refine WC.region ?_
          refine WL.y (Yl.loadN ag34 rfl (by repeat (first | exact Take1.head | apply Take1.tail)) (by rfl) (show _ = tmC (some (.mk 2 0 [a, b])) from rfl)) rfl ?_
          refine WL.callC (xs := [.tmp 55]) (cap := []) rfl rfl en34 (by repeat (first | exact TakeL.nil | (apply TakeL.cons; · repeat (first | exact Take1.head | apply Take1.tail)))) (fun w hw => two_any (.mk 2 0 [a, b]) a b htk rfl (by have : (Tm.mk 2 0 [a, b]).enc.length = (pairT a b).enc.length := rfl; omega) w hw.left.here) rfl ?_
          rintro ⟨⟩ -
          refine WL.y (Yl.move rfl) rfl ?_
          refine WL.y (Yl.extract rfl rfl) rfl ?_
          refine WL.y (Yl.extract rfl rfl) rfl ?_
          refine WL.to (To.alloc (cs := [.string (strOfNums [])]) zr34 rfl) rfl ?_
          intro b8
          refine WL.to (To.alloc (cs := [.string (strOfNums [])]) zr34 rfl) rfl ?_
          intro b9
          refine WL.sto (Sto.agg sz34 rfl rfl (by repeat (first | exact Take1.head | apply Take1.tail)) (tm_ones _) rfl (by rfl) (show _ = tmC (some a) from rfl)) (fun _ h => nomatch h) ?_
          refine WL.sto (Sto.agg sz34 rfl rfl (by repeat (first | exact Take1.head | apply Take1.tail)) (tm_ones _) rfl (by rfl) (show _ = tmC (some b) from rfl)) (fun _ h => nomatch h) ?_
          refine WL.nil ?_
          refine WC.region ?_
          refine WL.y (Yl.load on25 rfl (by repeat (first | exact Take1.head | apply Take1.tail)) (by rfl)) rfl ?_
          refine WL.y (Yl.loadN ag34 rfl (by repeat (first | exact Take1.head | apply Take1.tail)) (by rfl) (show _ = tmC (some a) from rfl)) rfl ?_
          refine WL.y (Yl.loadN ag34 rfl (by repeat (first | exact Take1.head | apply Take1.tail)) (by rfl) (show _ = tmC (some b) from rfl)) rfl ?_
          refine WL.to (To.buildSlice (vs := [tmV (some a), tmV (some b)]) un25 zs34 rfl rfl (by simp [Value.cells, tmV, tmC]) (by decide) (by decide)) rfl ?_
          intro b62
          rw [show flat [tmV (some a), tmV (some b)] = vcs tmV [some a, some b] from rfl]
          refine WL.to (To.append sl25 rfl rfl (by repeat (first | exact Take1.head | apply Take1.tail)) (Reads.of (RdOf.blk (size := 1) (n := 2) (cs := vcs tmV [some a, some b]) (cs' := vcs tmV [some a, some b]) (Nat.le_refl _) (by unfold maxLen; omega) (by simp [vcs, tmV, tmC, flat, Value.cells]) rfl) (by repeat (first | exact Take1.head | apply Take1.tail))) (vtM.ones _) (show l.length + 2 = (l ++ [some a, some b]).length by simp) (show vcs tmV l ++ vcs tmV [some a, some b] = vcs tmV (l ++ [some a, some b]) by rw [vcs_app]) (by simp; unfold maxLen; omega) (by simp; omega)) rfl ?_
          rintro ⟨⟨ao63, c63⟩, hc63⟩
          dsimp only at hc63 ⊢
          refine WL.sto (Sto.one sz25 rfl rfl (by repeat (first | exact Take1.head | apply Take1.tail)) rfl (by rfl) (by rfl)) (fun _ h => nomatch h) ?_
          refine WL.nil ?_
          exact ⟨rfl, ⟨l ++ [some a, some b], (ao63, c63), ws, x, m ++ [(some (.mk 2 0 [a, b]), ())]⟩, ⟨hnext, by dsimp only; rw [wLs_app]; omega⟩, by dsimp only; rw [wLs_app]; omega, (by repeat (first | exact Sub.nil | refine Sub.cons rfl ?_)), _, (by repeat (first | exact TakeL.nil | (apply TakeL.cons; · repeat (first | exact Take1.head | apply Take1.tail))))⟩
        · refine WC.seq ?_
          refine WC.region ?_
          refine WL.y (Yl.eql rfl rfl) rfl ?_
          refine WL.y (Yl.assign rfl) rfl ?_
          refine WL.nil ?_
          refine WC.condD rfl (fun g64 => ?_) (fun g64 => ?_)
          · have hk : k = 4 := g64
            obtain ⟨hn0, a, b, hps⟩ : nn = 0 ∧ ∃ a b, ps = [a, b] := by
              have h := hok.1
              unfold shp at h
              rcases h with ⟨h, _⟩ | ⟨_, h, h2⟩ | ⟨h, _⟩ | ⟨h, _⟩ | ⟨h, _⟩
              · omega
              · match ps, h2 with
                | [a, b], _ => exact ⟨h, a, b, rfl⟩
              · omega
              · omega
              · omega
            subst hk
            subst hn0
            subst hps
            have hwl := wWs_len ws
            have hww : wWs (ws ++ [(a, b)]) = wWs ws + wO (some (.mk 4 0 [a, b])) := by rw [wWs_app]; rfl
            have hnext : CI g (l ++ []) (ws ++ [(a, b)]) (m ++ [(some (.mk 4 0 [a, b]), ())]) := hci.more [] [(a, b)] (fun q hq => nomatch hq) (fun u hu => nomatch hu) (fun q hq => by simp at hq; subst hq; rfl)
              (fun a' b' e => by unfold pairT at e; injection e with e; omega) (fun a' b' e => by unfold sealT at e; injection e with _ _ e; injection e with e1 e; injection e with e2 _; rw [e1, e2]; simp)
            rw [List.append_nil] at hnext
            refine WC.region ?_
            refine WL.y (Yl.move rfl) rfl ?_
            refine WL.y (Yl.loadN ag34 rfl (by repeat (first | exact Take1.head | apply Take1.tail)) (by rfl) (show _ = tmC (some (.mk 4 0 [a, b])) from rfl)) rfl ?_
            refine WL.to (To.buildSlice (vs := [slV (a, b)]) un25 zs34 rfl rfl (by simp [Value.cells, slV, tmV, tmC]) (by decide) (by decide)) rfl ?_
            intro b68
            rw [show flat [slV (a, b)] = vcs slV [(a, b)] from rfl]
            refine WL.to (To.append sl25 rfl rfl (by repeat (first | exact Take1.head | apply Take1.tail)) (Reads.of (RdOf.blk (size := 1) (n := 1) (cs := vcs slV [(a, b)]) (cs' := vcs slV [(a, b)]) (Nat.le_refl _) (by unfold maxLen; omega) (by simp [vcs, slV, tmV, tmC, flat, Value.cells]) rfl) (by repeat (first | exact Take1.head | apply Take1.tail))) (vtSl.ones _) (show ws.length + 1 = (ws ++ [(a, b)]).length by simp) (show vcs slV ws ++ vcs slV [(a, b)] = vcs slV (ws ++ [(a, b)]) by rw [vcs_app]) (by simp; unfold maxLen; omega) (by simp; omega)) rfl ?_
            rintro ⟨⟨ao69, c69⟩, hc69⟩
            dsimp only at hc69 ⊢
            refine WL.y (Yl.assign rfl) rfl ?_
            refine WL.nil ?_
            exact ⟨rfl, ⟨l, (ya, y.2), ws ++ [(a, b)], (ao69, c69), m ++ [(some (.mk 4 0 [a, b]), ())]⟩, ⟨hnext, by dsimp only; omega⟩, by dsimp only; omega, (by repeat (first | exact Sub.nil | refine Sub.cons rfl ?_)), _, (by repeat (first | exact TakeL.nil | (apply TakeL.cons; · repeat (first | exact Take1.head | apply Take1.tail))))⟩
          · refine WC.skip ?_
            have hnext : CI g (l ++ []) (ws ++ []) (m ++ [(some (.mk k nn ps), ())]) := hci.more [] [] (fun q hq => nomatch hq) (fun u hu => nomatch hu) (fun q hq => nomatch hq)
              (fun a' b' e => by unfold pairT at e; injection e with e; exact absurd e g52) (fun a' b' e => by unfold sealT at e; injection e with e; exact absurd e g64)
            rw [List.append_nil, List.append_nil] at hnext
            exact ⟨rfl, ⟨l, (ya, y.2), ws, x, m ++ [(some (.mk k nn ps), ())]⟩, ⟨hnext, by dsimp only; omega⟩, by dsimp only; omega, (by repeat (first | exact Sub.nil | refine Sub.cons rfl ?_)), _, (by repeat (first | exact TakeL.nil | (apply TakeL.cons; · repeat (first | exact Take1.head | apply Take1.tail))))⟩
  · refine WC.exit ?_
    refine WC.seq ?_
    refine WC.region ?_
    have hl0 : l = [] := by
      cases l with
      | nil => rfl
      | cons a l => simp at g17
    subst hl0
    have hwl := wWs_len ws
    have hw0 : wLs ([] : List (Option Tm)) = 0 := rfl
    have hopw := opn_w m ws
    refine WL.y (Yl.move rfl) rfl ?_
    refine WL.y (Yl.makeFunc (xs := []) (ys := [.tmp 3, .tmp 1]) rfl rfl) rfl ?_
    refine WL.callC (xs := [.tmp 70, .tmp 71]) (cap := []) rfl rfl en35 (by repeat (first | exact TakeL.nil | (apply TakeL.cons; · repeat (first | exact Take1.head | apply Take1.tail)))) (fun w hw => delM_any b1 b3 b12 b10 m hci.mg [] y x.1 x.2 ws hci.ws (by simp; omega) w hw.left.here) rfl ?_
    rintro ⟨x72, y72⟩ -
    rw [List.nil_append]
    dsimp only [cloR, List.cons_append, List.nil_append]
    refine WL.y (Yl.assign rfl) rfl ?_
    refine WL.nil ?_
    refine WC.seq ?_
    refine WC.region ?_
    refine WL.y (Yl.load on25 rfl (by repeat (first | exact Take1.head | apply Take1.tail)) (by rfl)) rfl ?_
    refine WL.y (Yl.len un25 rfl) rfl ?_
    refine WL.y (Yl.eql rfl rfl) rfl ?_
    refine WL.nil ?_
    refine WC.condD rfl (fun g75 => ?_) (fun g75 => ?_)
    · refine WC.seq ?_
      refine WC.region ?_
      refine WL.y (Yl.load on45 rfl (by repeat (first | exact Take1.head | apply Take1.tail)) (by rfl)) rfl ?_
      refine WL.y (Yl.assign rfl) rfl ?_
      refine WL.nil ?_
      refine WC.ret ?_
      repeat (first | (with_reducible refine peelT ?_) | (with_reducible refine peelB ?_) | (with_reducible refine peelTX ?_) | (with_reducible refine peelBX ?_) | (with_reducible refine peelBN ?_) | (with_reducible refine peelBO rfl ?_))
      have hon : opn m ws = [] := List.eq_nil_of_length_eq_zero (by omega)
      exact ret1 (.inr rfl) Try.results13 rfl fun w' h => ⟨(b12, b10, m), ⟨hci.done (opn_nil hon), fun p hp => ⟨hci.mok p hp, hci.nn p hp⟩⟩, rfl, h.sub (by repeat (first | exact TakeL.nil | (apply TakeL.cons; · repeat (first | exact Take1.head | apply Take1.tail))))⟩
    · refine WC.skip ?_
      exact ⟨rfl, ⟨opn m ws, y72, ws.filter fun x => !opB m x, x72, m⟩, ⟨hci.opened, by dsimp only; omega⟩, by dsimp only; omega, (by repeat (first | exact Sub.nil | refine Sub.cons rfl ?_)), _, (by repeat (first | exact TakeL.nil | (apply TakeL.cons; · repeat (first | exact Take1.head | apply Take1.tail))))⟩
end Go.Proofs.Ytifhkjcimhhaiaa
