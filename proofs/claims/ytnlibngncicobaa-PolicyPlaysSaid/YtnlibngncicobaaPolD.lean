/- Policies: Remove, Note; rules gone over, the first of which something is so, Ask: the walks. -/
import Derived.Test.YtnlibngncicobaaPolC
namespace Go.Proofs.Ytnlibngncicobaa
open Go Go.RowKit
theorem insNil_any (z : Int) (r : Ru) (w : World) (hw : OK w (fpL []) [] w) :
    Fn Try.prog 14 [.pointer none, .int .i64 z, ruV r] [] w (fun _ : Unit => True) (fun _ => .int .i64 1) (fun _ => []) := by
  unfold ruV
  refine enterF Try.func14 rfl Try.ntmps14 rfl hw ?_
  refine WC.seq ?_
  refine WC.region ?_
  refine WL.to (To.box (cs := r.cells) rfl rfl) rfl ?_
  intro b5
  refine WL.y (Yl.assign rfl) rfl ?_
  refine WL.nil ?_
  refine WC.seq ?_
  refine WC.block ?_
  refine WC.seq ?_
  refine WC.region ?_
  refine WL.y (Yl.move rfl) rfl ?_
  refine WL.y (Yl.nilEq un33 rfl rfl) rfl ?_
  refine WL.know (t := 9) (b' := true) rfl (by first | rfl | (simp; done) | (simp; omega)) ?_
  refine WL.y (Yl.assign rfl) rfl ?_
  refine WL.nil ?_
  refine WC.condT rfl (by first | rfl | (simp; done) | (simp; omega)) ?_
  refine WC.seq ?_
  refine WC.region ?_
  refine WL.y (Yl.assign rfl) rfl ?_
  refine WL.nil ?_
  refine WC.ret ?_
  repeat (first | (with_reducible refine peelT ?_) | (with_reducible refine peelB ?_) | (with_reducible refine peelTX ?_) | (with_reducible refine peelBX ?_) | (with_reducible refine peelBN ?_) | (with_reducible refine peelBO rfl ?_))
  exact ret1 (.inr rfl) Try.results14 rfl fun w' h => ⟨(), trivial, rfl, h.sub (by repeat (first | exact TakeL.nil | (apply TakeL.cons; · repeat (first | exact Take1.head | apply Take1.tail))))⟩
theorem remNil_any (z : Int) (w : World) (hw : OK w (fpL []) [] w) :
    Fn Try.prog 16 [.pointer none, .int .i64 z] [] w (fun _ : Unit => True) (fun _ => .int .i64 1) (fun _ => []) := by
  refine enterF Try.func16 rfl Try.ntmps16 rfl hw ?_
  refine WC.seq ?_
  refine WC.region ?_
  refine WL.y (Yl.assign rfl) rfl ?_
  refine WL.nil ?_
  refine WC.seq ?_
  refine WC.block ?_
  refine WC.seq ?_
  refine WC.region ?_
  refine WL.y (Yl.move rfl) rfl ?_
  refine WL.y (Yl.nilEq un33 rfl rfl) rfl ?_
  refine WL.know (t := 7) (b' := true) rfl (by first | rfl | (simp; done) | (simp; omega)) ?_
  refine WL.y (Yl.assign rfl) rfl ?_
  refine WL.nil ?_
  refine WC.condT rfl (by first | rfl | (simp; done) | (simp; omega)) ?_
  refine WC.seq ?_
  refine WC.region ?_
  refine WL.y (Yl.assign rfl) rfl ?_
  refine WL.nil ?_
  refine WC.ret ?_
  repeat (first | (with_reducible refine peelT ?_) | (with_reducible refine peelB ?_) | (with_reducible refine peelTX ?_) | (with_reducible refine peelBX ?_) | (with_reducible refine peelBN ?_) | (with_reducible refine peelBO rfl ?_))
  exact ret1 (.inr rfl) Try.results16 rfl fun w' h => ⟨(), trivial, rfl, h.sub (by repeat (first | exact TakeL.nil | (apply TakeL.cons; · repeat (first | exact Take1.head | apply Take1.tail))))⟩
theorem noteNil_any (a now : Int) (w : World) (hw : OK w (fpL []) [] w) :
    Fn Try.prog 18 [.pointer none, .int .u8 a, .int .u64 now] [] w (fun _ : Unit => True) (fun _ => .tuple #[]) (fun _ => []) := by
  refine enterF Try.func18 rfl Try.ntmps18 rfl hw ?_
  refine WC.seq ?_
  refine WC.region ?_
  refine WL.y (Yl.move rfl) rfl ?_
  refine WL.y (Yl.nilNe un33 rfl rfl) rfl ?_
  refine WL.know (t := 7) (b' := false) rfl (by first | rfl | (simp; done) | (simp; omega)) ?_
  refine WL.y (Yl.move rfl) rfl ?_
  refine WL.off rfl rfl rfl rfl ?_
  refine WL.off rfl rfl rfl rfl ?_
  refine WL.y (Yl.pickF rfl rfl) rfl ?_
  refine WL.nil ?_
  refine WC.condF rfl (by first | rfl | (simp; done) | (simp; omega)) ?_
  refine WC.skip ?_
  repeat (first | (with_reducible refine peelT ?_) | (with_reducible refine peelB ?_) | (with_reducible refine peelTX ?_) | (with_reducible refine peelBX ?_) | (with_reducible refine peelBN ?_) | (with_reducible refine peelBO rfl ?_))
  exact ret0 (.inl rfl) Try.results18 fun w' h => ⟨(), trivial, rfl, h.sub (by repeat (first | exact TakeL.nil | (apply TakeL.cons; · repeat (first | exact Take1.head | apply Take1.tail))))⟩
set_option maxRecDepth 100000 in
theorem remP_any (b : Nat) (ao : Option Addr) (ca : Nat) (p : Po) (z : Int) (hp : p.ok) (w : World) (hw : OK w (fpL (polR b ao ca p)) (polR b ao ca p) w) :
    Fn Try.prog 16 [.pointer (some ⟨b, 0, none⟩), .int .i64 z] (polR b ao ca p) w (fun _ : Option Addr × Nat => True) (fun _ => .int .i64 (remE p z)) (fun y => polR b y.1 y.2 (remP p z)) := by
  have hro := UOk.of hp
  have hln := hp.len
  unfold polR at hw ⊢
  refine enterF Try.func16 rfl Try.ntmps16 rfl hw ?_
  refine WC.seq ?_
  refine WC.region ?_
  refine WL.y (Yl.assign rfl) rfl ?_
  refine WL.nil ?_
  refine WC.seq ?_
  refine WC.block ?_
  refine WC.seq ?_
  refine WC.region ?_
  refine WL.y (Yl.move rfl) rfl ?_
  refine WL.y (Yl.nilEq un33 rfl rfl) rfl ?_
  refine WL.know (t := 7) (b' := false) rfl (by first | rfl | (simp; done) | (simp; omega)) ?_
  refine WL.y (Yl.assign rfl) rfl ?_
  refine WL.nil ?_
  refine WC.condF rfl (by first | rfl | (simp; done) | (simp; omega)) ?_
  refine WC.seq ?_
  refine WC.region ?_
  refine WL.y (Yl.move rfl) rfl ?_
  refine WL.y (Yl.lss rfl rfl) rfl ?_
  refine WL.y (Yl.move rfl) rfl ?_
  refine WL.both (t := 11) rfl (fun g11 => ?_) (fun g11 => ?_)
  · refine WL.off rfl rfl rfl rfl ?_
    refine WL.off rfl rfl rfl rfl ?_
    refine WL.off rfl rfl rfl rfl ?_
    refine WL.off rfl rfl rfl rfl ?_
    refine WL.off rfl rfl rfl rfl ?_
    refine WL.off rfl rfl rfl rfl ?_
    refine WL.off rfl rfl rfl rfl ?_
    refine WL.y (Yl.pickT rfl rfl) rfl ?_
    refine WL.y (Yl.assign rfl) rfl ?_
    refine WL.nil ?_
    refine WC.condT rfl (by first | rfl | (simp; done) | (simp; omega)) ?_
    refine WC.seq ?_
    refine WC.region ?_
    refine WL.y (Yl.assign rfl) rfl ?_
    refine WL.nil ?_
    refine WC.ret ?_
    repeat (first | (with_reducible refine peelT ?_) | (with_reducible refine peelB ?_) | (with_reducible refine peelTX ?_) | (with_reducible refine peelBX ?_) | (with_reducible refine peelBN ?_) | (with_reducible refine peelBO rfl ?_))
    have hz : z < 0 ∨ (p.rl.length : Int) ≤ z := .inl (by simpa using g11)
    unfold remE remP
    rw [if_pos hz, if_pos hz]
    exact ret1 (.inr rfl) Try.results16 rfl fun w' h => ⟨(ao, ca), trivial, rfl, h.sub (by repeat (first | exact TakeL.nil | (apply TakeL.cons; · repeat (first | exact Take1.head | apply Take1.tail))))⟩
  · refine WL.on rfl rfl ?_
    refine WL.y (Yl.move rfl) rfl ?_
    refine WL.on rfl rfl ?_
    refine WL.y (Yl.move rfl) rfl ?_
    refine WL.on rfl rfl ?_
    refine WL.y (Yl.nilCheck rfl) rfl ?_
    refine WL.on rfl rfl ?_
    refine WL.y (Yl.field fo80_1 rfl) rfl ?_
    refine WL.on rfl rfl ?_
    refine WL.y (Yl.load on64 rfl (by repeat (first | exact Take1.head | apply Take1.tail)) (by rfl)) rfl ?_
    refine WL.on rfl rfl ?_
    refine WL.y (Yl.len un64 rfl) rfl ?_
    refine WL.on rfl rfl ?_
    refine WL.y (Yl.geq rfl rfl) rfl ?_
    refine WL.y (Yl.pickF rfl rfl) rfl ?_
    refine WL.y (Yl.assign rfl) rfl ?_
    refine WL.nil ?_
    refine WC.condD rfl (fun g8 => ?_) (fun g8 => ?_)
    · refine WC.seq ?_
      refine WC.region ?_
      refine WL.y (Yl.assign rfl) rfl ?_
      refine WL.nil ?_
      refine WC.ret ?_
      repeat (first | (with_reducible refine peelT ?_) | (with_reducible refine peelB ?_) | (with_reducible refine peelTX ?_) | (with_reducible refine peelBX ?_) | (with_reducible refine peelBN ?_) | (with_reducible refine peelBO rfl ?_))
      have hz : z < 0 ∨ (p.rl.length : Int) ≤ z := .inr (by simpa using g8)
      unfold remE remP
      rw [if_pos hz, if_pos hz]
      exact ret1 (.inr rfl) Try.results16 rfl fun w' h => ⟨(ao, ca), trivial, rfl, h.sub (by repeat (first | exact TakeL.nil | (apply TakeL.cons; · repeat (first | exact Take1.head | apply Take1.tail))))⟩
    · refine WC.skip ?_
      refine WC.seq ?_
      have hz : ¬ (z < 0 ∨ (p.rl.length : Int) ≤ z) := by
        have h1 : ¬ z < 0 := by simpa using g11
        have h2 : ¬ (p.rl.length : Int) ≤ z := by simpa using g8
        omega
      obtain ⟨i, hi⟩ : ∃ i : Nat, (i : Int) = z := ⟨z.toNat, by omega⟩
      subst hi
      have hil : i < p.rl.length := by omega
      have hlen := delU_len hil
      refine WC.region ?_
      refine WL.y (Yl.move rfl) rfl ?_
      refine WL.y (Yl.move rfl) rfl ?_
      refine WL.y (Yl.nilCheck rfl) rfl ?_
      refine WL.y (Yl.field fo80_1 rfl) rfl ?_
      refine WL.y (Yl.load on64 rfl (by repeat (first | exact Take1.head | apply Take1.tail)) (by rfl)) rfl ?_
      refine WL.callC (xs := [.tmp 24]) (cap := []) rfl rfl en36 (by repeat (first | exact TakeL.nil | (apply TakeL.cons; · repeat (first | exact Take1.head | apply Take1.tail)))) (fun w hw => cloneU_any (.slice ao p.rl.length ca) p.rl hro (by omega) w (hw.src (A := []) (r := rdR (.slice ao p.rl.length ca) 5 p.rl.length (vcs ruV p.rl)) RdOf.rd' (by repeat (first | exact Take1.head | apply Take1.tail))) hw.left.here) rfl ?_
      rintro ⟨a25, c25⟩ -
      dsimp only [List.cons_append, List.nil_append]
      refine WL.y (Yl.move rfl) rfl ?_
      refine WL.y (Yl.move rfl) rfl ?_
      refine WL.y (Yl.add rfl rfl (IntWalk.i64_in _ (by omega))) rfl ?_
      refine WL.say (t := 28) (v' := .int .i64 ((i + 1 : Nat) : Int)) rfl (by rfl) ?_
      refine WL.callC (xs := [.tmp 25, .tmp 26, .tmp 28]) (cap := []) rfl rfl en37 (by repeat (first | exact TakeL.nil | (apply TakeL.cons; · repeat (first | exact Take1.head | apply Take1.tail)))) (fun w hw => delUr_any a25 c25 p.rl hro i (by omega) hil w hw.left.here) rfl ?_
      rintro ⟨⟩ -
      dsimp only [List.cons_append, List.nil_append]
      rw [show p.rl.take i ++ p.rl.drop (i + 1) = delU p.rl i from rfl, show p.rl.length - 1 = (delU p.rl i).length by omega]
      refine WL.y (Yl.nilCheck rfl) rfl ?_
      refine WL.y (Yl.field fo80_1 rfl) rfl ?_
      refine WL.sto (Sto.one sz64 rfl rfl (by repeat (first | exact Take1.head | apply Take1.tail)) rfl (by rfl) (by rfl)) (fun _ h => nomatch h) ?_
      refine WL.nil ?_
      refine WC.seq ?_
      refine WC.region ?_
      refine WL.y (Yl.assign rfl) rfl ?_
      refine WL.nil ?_
      refine WC.ret ?_
      repeat (first | (with_reducible refine peelT ?_) | (with_reducible refine peelB ?_) | (with_reducible refine peelTX ?_) | (with_reducible refine peelBX ?_) | (with_reducible refine peelBN ?_) | (with_reducible refine peelBO rfl ?_))
      have e1 : remE p (i : Int) = 0 := by unfold remE; rw [if_neg hz]
      have e2 : remP p (i : Int) = { p with rl := delU p.rl i } := by unfold remP; rw [if_neg hz, Int.toNat_natCast]
      rw [e1, e2]
      exact ret1 (.inr rfl) Try.results16 rfl fun w' h => ⟨(a25, c25), trivial, rfl, (h.readOnly (v := .slice a25 (delU p.rl i).length c25) (by repeat (first | exact Take1.head | apply Take1.tail))).sub (by repeat (first | exact TakeL.nil | (apply TakeL.cons; · repeat (first | exact Take1.head | apply Take1.tail))))⟩
theorem noteC1 {p : Po} (h : p.sz) (v : Value) {j : Nat} (hj : j < 8) (now : Int) : ((p.cells v).set (0 + 10 + j * 1) (.bool true)).set (0 + 2 + j * 1) (.int .u64 now) = ({ p with no := p.no.set j true, la := p.la.set j now } : Po).cells v := by
  rw [Po.setN h v hj]
  exact Po.setL (p := { p with no := p.no.set j true }) ⟨h.la, by show (p.no.set j true).length = 8; rw [List.length_set, h.no]⟩ v hj now
theorem noteC2 {p : Po} (h : p.sz) (v : Value) {j : Nat} (hj : j < 8) (now : Int) : ((p.cells v).set (0 + 2 + j * 1) (.int .u64 now)).set (0 + 10 + j * 1) (.bool true) = ({ p with no := p.no.set j true, la := p.la.set j now } : Po).cells v := by
  rw [Po.setL h v hj]
  exact Po.setN (p := { p with la := p.la.set j now }) ⟨by show (p.la.set j now).length = 8; rw [List.length_set, h.la], h.no⟩ v hj true
set_option maxRecDepth 100000 in
theorem noteP_any (b : Nat) (ao : Option Addr) (ca : Nat) (p : Po) (a now : Int) (ha : 0 ≤ a) (hp : p.ok) (w : World) (hw : OK w (fpL (polR b ao ca p)) (polR b ao ca p) w) :
    Fn Try.prog 18 [.pointer (some ⟨b, 0, none⟩), .int .u8 a, .int .u64 now] (polR b ao ca p) w (fun _ : Unit => True) (fun _ => .tuple #[]) (fun _ => polR b ao ca (noteU p a now)) := by
  obtain ⟨j, rfl⟩ : ∃ j : Nat, a = (j : Int) := ⟨a.toNat, by omega⟩
  have hsz := hp.sz
  unfold polR at hw ⊢
  refine enterF Try.func18 rfl Try.ntmps18 rfl hw ?_
  refine WC.seq ?_
  refine WC.region ?_
  refine WL.y (Yl.move rfl) rfl ?_
  refine WL.y (Yl.nilNe un33 rfl rfl) rfl ?_
  refine WL.know (t := 7) (b' := true) rfl (by first | rfl | (simp; done) | (simp; omega)) ?_
  refine WL.y (Yl.move rfl) rfl ?_
  refine WL.on rfl rfl ?_
  refine WL.y (Yl.move rfl) rfl ?_
  refine WL.on rfl rfl ?_
  refine WL.y (Yl.lss rfl rfl) rfl ?_
  refine WL.y (Yl.pickT rfl rfl) rfl ?_
  refine WL.nil ?_
  refine WC.condD rfl (fun g11 => ?_) (fun g11 => ?_)
  · have hj8 : j < 8 := by have := g11; omega
    have e : noteU p (j : Int) now = { p with no := p.no.set j true, la := p.la.set j now } := by unfold noteU; rw [if_pos (by omega), Int.toNat_natCast]
    have hc18 := Po.len hsz (.slice ao p.rl.length ca)
    refine WC.drawAny (Hs := []) mixed (by kernel_rfl) ⟨_, (by repeat (first | exact TakeL.nil | (apply TakeL.cons; · repeat (first | exact Take1.head | apply Take1.tail))))⟩ ?_
    refine WD.take 0 rfl (by kernel_rfl) (by kernel_rfl) (by kernel_rfl) rfl rfl (Yl.move rfl) rfl ?_
    refine WD.take 1 rfl (by kernel_rfl) (by kernel_rfl) (by kernel_rfl) rfl rfl (Yl.move rfl) rfl ?_
    refine WD.take 2 rfl (by kernel_rfl) (by kernel_rfl) (by kernel_rfl) rfl rfl (Yl.move rfl) rfl ?_
    refine WD.take 3 rfl (by kernel_rfl) (by kernel_rfl) (by kernel_rfl) rfl rfl (Yl.move rfl) rfl ?_
    refine WD.take 4 rfl (by kernel_rfl) (by kernel_rfl) (by kernel_rfl) rfl rfl (Yl.move rfl) rfl ?_
    refine WD.take 5 rfl (by kernel_rfl) (by kernel_rfl) (by kernel_rfl) rfl rfl (Yl.nilCheck rfl) rfl ?_
    refine WD.take 6 rfl (by kernel_rfl) (by kernel_rfl) (by kernel_rfl) rfl rfl (Yl.field fo80_3 rfl) rfl ?_
    refine WD.take 7 rfl (by kernel_rfl) (by kernel_rfl) (by kernel_rfl) rfl rfl (Yl.indexA un39 sz4 rfl rfl rfl (by omega)) rfl ?_
    refine WD.take 9 rfl (by kernel_rfl) (by kernel_rfl) (by kernel_rfl) rfl rfl (Yl.nilCheck rfl) rfl ?_
    refine WD.take 10 rfl (by kernel_rfl) (by kernel_rfl) (by kernel_rfl) rfl rfl (Yl.field fo80_2 rfl) rfl ?_
    refine WD.one 8 (by kernel_rfl) ?_
    refine WO.sto rfl rfl .no (Sto.one sz4 rfl rfl (by repeat (first | exact Take1.head | apply Take1.tail)) rfl (leN (show 0 + 10 + j * 1 + 1 ≤ _ by first | (rw [hc18]; omega) | (rw [List.length_set, hc18]; omega))) (by rfl)) ⟨_, (by repeat (first | exact TakeL.nil | (apply TakeL.cons; · repeat (first | exact Take1.head | apply Take1.tail))))⟩ ?_
    refine WD.take 11 rfl (by kernel_rfl) (by kernel_rfl) (by kernel_rfl) rfl rfl (Yl.indexA un40 sz25 rfl rfl rfl (by omega)) rfl ?_
    refine WD.one 12 (by kernel_rfl) ?_
    refine WO.sto rfl rfl .no (Sto.one sz25 rfl rfl (by repeat (first | exact Take1.head | apply Take1.tail)) rfl (leN (show 0 + 2 + j * 1 + 1 ≤ _ by first | (rw [hc18]; omega) | (rw [List.length_set, hc18]; omega))) (by rfl)) ⟨_, (by repeat (first | exact TakeL.nil | (apply TakeL.cons; · repeat (first | exact Take1.head | apply Take1.tail))))⟩ ?_
    refine WD.done (by kernel_rfl) ?_
    repeat (first | (with_reducible refine peelT ?_) | (with_reducible refine peelB ?_) | (with_reducible refine peelTX ?_) | (with_reducible refine peelBX ?_) | (with_reducible refine peelBN ?_) | (with_reducible refine peelBO rfl ?_))
    rw [e]
    exact ret0 (.inl rfl) Try.results18 fun w' h => ⟨(), trivial, rfl, by first | (rw [noteC1 hsz _ hj8] at h; exact h.sub (by repeat (first | exact TakeL.nil | (apply TakeL.cons; · repeat (first | exact Take1.head | apply Take1.tail))))) | (rw [noteC2 hsz _ hj8] at h; exact h.sub (by repeat (first | exact TakeL.nil | (apply TakeL.cons; · repeat (first | exact Take1.head | apply Take1.tail)))))⟩
  · refine WC.skip ?_
    repeat (first | (with_reducible refine peelT ?_) | (with_reducible refine peelB ?_) | (with_reducible refine peelTX ?_) | (with_reducible refine peelBX ?_) | (with_reducible refine peelBN ?_) | (with_reducible refine peelBO rfl ?_))
    have e : noteU p (j : Int) now = p := by unfold noteU; rw [if_neg (by simpa using g11)]
    rw [e]
    exact ret0 (.inl rfl) Try.results18 fun w' h => ⟨(), trivial, rfl, h.sub (by repeat (first | exact TakeL.nil | (apply TakeL.cons; · repeat (first | exact Take1.head | apply Take1.tail))))⟩
/-- What is gone over: each place, each rule. -/
def yrU (xs : List Ru) : List (Array Value) := (List.range xs.length).map fun (i : Nat) => #[.int .i64 (i : Int), ruV (xs.getD i Ru.zero)]
theorem yrU_len (xs : List Ru) : (yrU xs).length = xs.length := by simp [yrU]
theorem yrU_get {xs : List Ru} {i : Nat} {x : Ru} (h : xs[i]? = some x) : (yrU xs)[i]? = some #[.int .i64 (i : Int), ruV x] := by
  have hl := (List.getElem?_eq_some_iff.1 h).1
  unfold yrU
  rw [List.getElem?_map, List.getElem?_range hl]
  simp [List.getD, h]
theorem yrU_at {xs : List Ru} {i : Nat} {y : Array Value} (h : (yrU xs)[i]? = some y) : ∃ x, xs[i]? = some x ∧ y = #[.int .i64 (i : Int), ruV x] := by
  have hl : i < xs.length := by have := (List.getElem?_eq_some_iff.1 h).1; rwa [yrU_len] at this
  refine ⟨xs[i], List.getElem?_eq_getElem hl, ?_⟩
  rw [yrU_get (List.getElem?_eq_getElem hl)] at h
  exact (Option.some.inj h).symm
theorem yrU_size {xs : List Ru} : ∀ y ∈ yrU xs, y.size = 2 := by
  intro y hy
  obtain ⟨i, _, rfl⟩ := List.mem_map.1 hy
  rfl
theorem Ru.all (r : Ru) (ys : List Value) (hy : ys.length = 5) : r.cells.take 0 ++ ys ++ r.cells.drop (0 + 5) = ys := by
  rw [List.take_zero, List.nil_append, List.drop_of_length_le (by rw [Ru.len]; omega), List.append_nil]
theorem Ru.call (r : Ru) : (r.cells.drop 0).take 5 = r.cells := rfl
set_option maxRecDepth 100000 in
theorem all1_iter (b1 : Nat) (v : Value) (xs : List Ru) (hG : UOk xs) (hl : xs.length ≤ 1000000) (w : World) (hA : OK w (fpL [roR (blkR b1 64 [v]), rdR v 5 xs.length (vcs ruV xs)]) [roR (blkR b1 64 [v]), rdR v 5 xs.length (vcs ruV xs)] w) :
    Iter Try.prog 71 ([.pointer (some ⟨b1, 0, none⟩)] : List Value).toArray (fpL [roR (blkR b1 64 [v]), rdR v 5 xs.length (vcs ruV xs)]).rd (yrU xs) w := by
  obtain ⟨al, cl, rfl, hcl, hml⟩ := (hA.get (.tail .head) : Rd _ _ _ _ _).form
  have hwr : ∀ r ∈ [roR (blkR b1 64 [.slice al xs.length cl]), rdR (.slice al xs.length cl) 5 xs.length (vcs ruV xs)], ∀ k, ¬ r.wr k := by
    intro r hr k hk
    simp at hr
    rcases hr with rfl | rfl <;> exact hk
  have hln := yrU_len xs
  refine iter_of Try.func71 rfl Try.ntmps71 rfl hA hwr ?_
  intro l W g gx T0 hy
  refine WC.seq ?_
  refine WC.region ?_
  refine WL.y (Yl.loadRo on64 rfl (by repeat (first | exact Take1.head | apply Take1.tail)) (by rfl)) rfl ?_
  refine WL.y (Yl.len un64 rfl) rfl ?_
  refine WL.y (Yl.move rfl) rfl ?_
  refine WL.nil ?_
  refine WC.block ?_
  refine WC.loop (α := Nat × (Nat → Prop)) (fun p => [(0, .func (.yield l) #[] #[]), (5, .slice al xs.length cl), (6, .int .i64 (xs.length : Int)), (7, .int .i64 (p.1 : Int))]) (fun p => [gstR g p.1 p.2, roR (blkR b1 64 [.slice al xs.length cl]), rdR (.slice al xs.length cl) 5 xs.length (vcs ruV xs)]) (fun p => p.1 ≤ xs.length) (fun p => xs.length - p.1) (0, T0) (Nat.zero_le _) ⟨(by repeat (first | exact Sub.nil | refine Sub.cons rfl ?_)), _, (by repeat (first | exact TakeL.nil | (apply TakeL.cons; · repeat (first | exact Take1.head | apply Take1.tail))))⟩ ?_
  rintro ⟨i, T⟩ hi
  dsimp only at hi ⊢
  refine WC.seq ?_
  refine WC.region ?_
  refine WL.y (Yl.lss rfl rfl) rfl ?_
  refine WL.nil ?_
  refine WC.seq ?_
  refine WC.condD rfl (fun g8 => ?_) (fun g8 => ?_)
  · refine WC.skip ?_
    refine WC.seq ?_
    refine WC.block ?_
    refine WC.seq ?_
    refine WC.region ?_
    refine WL.y (Yl.move rfl) rfl ?_
    have hil : i < xs.length := by omega
    obtain ⟨x, hx0⟩ : ∃ x, xs[i]? = some x := ⟨_, List.getElem?_eq_getElem hil⟩
    refine WL.y (Yl.index un64 sz24 rfl rfl (Reads.of (r := rdR (.slice al xs.length cl) 5 xs.length (vcs ruV xs)) RdOf.rd' (by repeat (first | exact Take1.head | apply Take1.tail))) rfl (by omega)) rfl ?_
    refine WL.y (Yl.loadV (j := i) (u := x) vtU hG rfl (Reads.of (r := rdR (.slice al xs.length cl) 5 xs.length (vcs ruV xs)) RdOf.rd' (by repeat (first | exact Take1.head | apply Take1.tail))) rfl hx0) rfl ?_
    refine WL.to (To.alloc (cs := Ru.zero.cells) zr24 rfl) rfl ?_
    intro b4
    refine WL.y (Yl.assign rfl) rfl ?_
    refine WL.sto (Sto.agg sz24 rfl rfl (by repeat (first | exact Take1.head | apply Take1.tail)) (Ru.ones _) (Ru.len x) (by rfl) (Ru.all Ru.zero x.cells (Ru.len x))) (fun _ h => nomatch h) ?_
    refine WL.nil ?_
    refine WC.seq ?_
    refine WC.region ?_
    refine WL.y (Yl.move rfl) rfl ?_
    refine WL.y (Yl.move rfl) rfl ?_
    refine WL.y (Yl.loadN ag24 rfl (by repeat (first | exact Take1.head | apply Take1.tail)) (by rfl) (Ru.call x)) rfl ?_
    refine WL.yield (xs := [.tmp 13, .tmp 14]) (i := i) hy rfl rfl (yrU_get hx0) (by repeat (first | exact Take1.head | apply Take1.tail)) rfl ?_
    intro b15 T'
    refine WL.y (Yl.not rfl) rfl ?_
    refine WL.nil ?_
    refine WC.cond rfl (fun g16 => ?_) (fun g16 => ?_)
    · refine WC.ret ?_
      repeat (first | (with_reducible refine peelT ?_) | (with_reducible refine peelB ?_) | (with_reducible refine peelTX ?_) | (with_reducible refine peelBX ?_) | (with_reducible refine peelBN ?_) | (with_reducible refine peelBO rfl ?_))
      have hb : b15 = false := by simpa using g16
      subst hb
      simp only [Bool.false_eq_true, if_false]
      exact itStop (i := i) (.inr rfl) Try.results71 (by repeat (first | exact Take1.head | apply Take1.tail)) (by rw [hln]; exact hil)
    · refine WC.skip ?_
      refine WC.region ?_
      refine WL.y (Yl.add rfl rfl (IntWalk.i64_in _ (by omega))) rfl ?_
      refine WL.y (Yl.move rfl) rfl ?_
      refine WL.nil ?_
      have hb : b15 = true := by simpa using g16
      subst hb
      simp only [if_true]
      exact ⟨rfl, (i + 1, T'), by dsimp only; omega, by dsimp only; omega, (by repeat (first | exact Sub.nil | refine Sub.cons rfl ?_)), _, (by repeat (first | exact TakeL.nil | (apply TakeL.cons; · repeat (first | exact Take1.head | apply Take1.tail))))⟩
  · refine WC.exit ?_
    repeat (first | (with_reducible refine peelT ?_) | (with_reducible refine peelB ?_) | (with_reducible refine peelTX ?_) | (with_reducible refine peelBX ?_) | (with_reducible refine peelBN ?_) | (with_reducible refine peelBO rfl ?_))
    have hx : i = (yrU xs).length := by rw [hln]; omega
    rw [← hx]
    exact itEnd (.inl rfl) Try.results71 (by repeat (first | exact Take1.head | apply Take1.tail))
theorem all_any (v : Value) (xs : List Ru) (hG : UOk xs) (hl : xs.length ≤ 1000000) (w : World) (hw : OK w (fpL [rdR v 5 xs.length (vcs ruV xs)]) [rdR v 5 xs.length (vcs ruV xs)] w) :
    Fn Try.prog 59 [v] [rdR v 5 xs.length (vcs ruV xs)] w (fun _ : Nat × (Nat → Prop) => True) (fun y => .func (.func 71) #[] #[.pointer (some ⟨y.1, 0, none⟩)]) (fun y => [itR Try.prog 71 [.pointer (some ⟨y.1, 0, none⟩)] y.2 (yrU xs)]) := by
  obtain ⟨al, cl, rfl, hcl, hml⟩ := (hw.get .head : Rd _ _ _ _ _).form
  refine enterF Try.func59 rfl Try.ntmps59 rfl hw ?_
  refine WC.seq ?_
  refine WC.region ?_
  refine WL.to (To.box (cs := [.slice al xs.length cl]) rfl rfl) rfl ?_
  intro b1
  refine WL.y (Yl.assign rfl) rfl ?_
  refine WL.nil ?_
  refine WC.seq ?_
  refine WC.region ?_
  refine WL.y (Yl.makeFunc (xs := []) (ys := [.tmp 1]) rfl rfl) rfl ?_
  refine WL.y (Yl.assign rfl) rfl ?_
  refine WL.nil ?_
  refine WC.ret ?_
  repeat (first | (with_reducible refine peelT ?_) | (with_reducible refine peelB ?_) | (with_reducible refine peelTX ?_) | (with_reducible refine peelBX ?_) | (with_reducible refine peelBN ?_) | (with_reducible refine peelBO rfl ?_))
  refine ret1 (.inr rfl) Try.results59 rfl fun w' hh => ⟨(b1, (fpL [roR (blkR b1 64 [.slice al xs.length cl]), rdR (.slice al xs.length cl) 5 xs.length (vcs ruV xs)]).rd), trivial, rfl, ?_⟩
  have hA : OK w _ ([blkR b1 64 [.slice al xs.length cl], rdR (.slice al xs.length cl) 5 xs.length (vcs ruV xs)] ++ []) w' := hh.sub (by repeat (first | exact TakeL.nil | (apply TakeL.cons; · repeat (first | exact Take1.head | apply Take1.tail))))
  have hro : OK w _ ([roR (blkR b1 64 [.slice al xs.length cl]), rdR (.slice al xs.length cl) 5 xs.length (vcs ruV xs)] ++ []) w' := hA.roOne .head
  exact hro.toIter (all1_iter b1 (.slice al xs.length cl) xs hG hl w' hro.here) (fun k hk => hk)
theorem rulesNil_any (w : World) (hw : OK w (fpL []) [] w) :
    Fn Try.prog 32 [.pointer none] [] w (fun _ : Nat × (Nat → Prop) => True) (fun y => .func (.func 71) #[] #[.pointer (some ⟨y.1, 0, none⟩)]) (fun y => [itR Try.prog 71 [.pointer (some ⟨y.1, 0, none⟩)] y.2 (yrU [])]) := by
  refine enterF Try.func32 rfl Try.ntmps32 rfl hw ?_
  refine WC.seq ?_
  refine WC.region ?_
  refine WL.y (Yl.assign rfl) rfl ?_
  refine WL.nil ?_
  refine WC.seq ?_
  refine WC.seq ?_
  refine WC.region ?_
  refine WL.y (Yl.move rfl) rfl ?_
  refine WL.y (Yl.nilEq un33 rfl rfl) rfl ?_
  refine WL.know (t := 4) (b' := true) rfl (by first | rfl | (simp; done) | (simp; omega)) ?_
  refine WL.nil ?_
  refine WC.condT rfl (by first | rfl | (simp; done) | (simp; omega)) ?_
  refine WC.seq ?_
  refine WC.region ?_
  refine WL.view (fun w h => (h.addNil 24 5).readOnly (v := .slice none 0 0) .head) ?_
  refine WL.callC (xs := [_]) (cap := []) rfl rfl en59 (by repeat (first | exact TakeL.nil | (apply TakeL.cons; · repeat (first | exact Take1.head | apply Take1.tail)))) (fun w hw => all_any (.slice none 0 0) [] (fun _ h => nomatch h) (by decide) w hw.left.here) rfl ?_
  rintro ⟨y1, own⟩ -
  dsimp only [List.cons_append, List.nil_append]
  refine WL.y (Yl.assign rfl) rfl ?_
  refine WL.nil ?_
  refine WC.ret ?_
  repeat (first | (with_reducible refine peelT ?_) | (with_reducible refine peelB ?_) | (with_reducible refine peelTX ?_) | (with_reducible refine peelBX ?_) | (with_reducible refine peelBN ?_) | (with_reducible refine peelBO rfl ?_))
  exact ret1 (.inr rfl) Try.results32 rfl fun w' h => ⟨(y1, own), trivial, rfl, h.sub (by repeat (first | exact TakeL.nil | (apply TakeL.cons; · repeat (first | exact Take1.head | apply Take1.tail))))⟩
theorem rules_any (b : Nat) (ao : Option Addr) (ca : Nat) (p : Po) (hG : UOk p.rl) (hl : p.rl.length ≤ 1000000) (w : World) (hw : OK w (fpL [roR (blkR b 80 (p.cells (.slice ao p.rl.length ca))), rdR (.slice ao p.rl.length ca) 5 p.rl.length (vcs ruV p.rl)]) [roR (blkR b 80 (p.cells (.slice ao p.rl.length ca))), rdR (.slice ao p.rl.length ca) 5 p.rl.length (vcs ruV p.rl)] w) :
    Fn Try.prog 32 [.pointer (some ⟨b, 0, none⟩)] [roR (blkR b 80 (p.cells (.slice ao p.rl.length ca))), rdR (.slice ao p.rl.length ca) 5 p.rl.length (vcs ruV p.rl)] w (fun _ : Nat × (Nat → Prop) => True) (fun y => .func (.func 71) #[] #[.pointer (some ⟨y.1, 0, none⟩)]) (fun y => [itR Try.prog 71 [.pointer (some ⟨y.1, 0, none⟩)] y.2 (yrU p.rl)]) := by
  refine enterF Try.func32 rfl Try.ntmps32 rfl hw ?_
  refine WC.seq ?_
  refine WC.region ?_
  refine WL.y (Yl.assign rfl) rfl ?_
  refine WL.nil ?_
  refine WC.seq ?_
  refine WC.seq ?_
  refine WC.region ?_
  refine WL.y (Yl.move rfl) rfl ?_
  refine WL.y (Yl.nilEq un33 rfl rfl) rfl ?_
  refine WL.know (t := 4) (b' := false) rfl (by first | rfl | (simp; done) | (simp; omega)) ?_
  refine WL.nil ?_
  refine WC.condF rfl (by first | rfl | (simp; done) | (simp; omega)) ?_
  refine WC.skip ?_
  refine WC.seq ?_
  refine WC.region ?_
  refine WL.y (Yl.move rfl) rfl ?_
  refine WL.y (Yl.nilCheck rfl) rfl ?_
  refine WL.y (Yl.field fo80_1 rfl) rfl ?_
  refine WL.y (Yl.loadRo on64 rfl (by repeat (first | exact Take1.head | apply Take1.tail)) (by rfl)) rfl ?_
  refine WL.callC (xs := [.tmp 9]) (cap := []) rfl rfl en59 (by repeat (first | exact TakeL.nil | (apply TakeL.cons; · repeat (first | exact Take1.head | apply Take1.tail)))) (fun w hw => all_any (.slice ao p.rl.length ca) p.rl hG hl w hw.left.here) rfl ?_
  rintro ⟨y1, own⟩ -
  dsimp only [List.cons_append, List.nil_append]
  refine WL.y (Yl.assign rfl) rfl ?_
  refine WL.nil ?_
  refine WC.ret ?_
  repeat (first | (with_reducible refine peelT ?_) | (with_reducible refine peelB ?_) | (with_reducible refine peelTX ?_) | (with_reducible refine peelBX ?_) | (with_reducible refine peelBN ?_) | (with_reducible refine peelBO rfl ?_))
  exact ret1 (.inr rfl) Try.results32 rfl fun w' h => ⟨(y1, own), trivial, rfl, h.sub (by repeat (first | exact TakeL.nil | (apply TakeL.cons; · repeat (first | exact Take1.head | apply Take1.tail))))⟩
set_option maxRecDepth 100000 in
theorem first_any (A : List Res) (f : FuncId) (cap : List Value) (q : Ru → Bool) (hq : PredB Try.prog A f cap (fun y : Nat × Ru => y.2.ok) (fun y => [.int .i64 (y.1 : Int), ruV y.2]) (fun y => q y.2)) (b : Nat) (ao : Option Addr) (ca : Nat) (p : Po) (hG : UOk p.rl) (hl : p.rl.length ≤ 1000000) (w : World) (hw : OK w (fpL [bunR A, roR (blkR b 80 (p.cells (.slice ao p.rl.length ca))), rdR (.slice ao p.rl.length ca) 5 p.rl.length (vcs ruV p.rl)]) [bunR A, roR (blkR b 80 (p.cells (.slice ao p.rl.length ca))), rdR (.slice ao p.rl.length ca) 5 p.rl.length (vcs ruV p.rl)] w) :
    Fn Try.prog 56 [.pointer (some ⟨b, 0, none⟩), .func (.func f) #[] cap.toArray] [bunR A, roR (blkR b 80 (p.cells (.slice ao p.rl.length ca))), rdR (.slice ao p.rl.length ca) 5 p.rl.length (vcs ruV p.rl)] w (fun _ : Unit => True) (fun _ => .int .i64 (atI (p.rl.findIdx? q))) (fun _ => []) := by
  refine enterM Try.func56 rfl Try.ntmps56 rfl hw ?_
  refine WC.seq ?_
  refine WC.region ?_
  refine WL.to (To.box (cs := [.func (.func f) #[] cap.toArray]) rfl rfl) rfl ?_
  intro b3
  refine WL.to (To.alloc (cs := [.int .i64 0]) zr3 rfl) rfl ?_
  intro b4
  refine WL.nil ?_
  refine WC.seq ?_
  refine WC.seq ?_
  refine WC.region ?_
  refine WL.y (Yl.move rfl) rfl ?_
  refine WL.callC (xs := [.tmp 7]) (cap := []) rfl rfl en32 (by repeat (first | exact TakeL.nil | (apply TakeL.cons; · repeat (first | exact Take1.head | apply Take1.tail)))) (fun w hw => rules_any b ao ca p hG hl w hw.left.here) rfl ?_
  rintro ⟨bn, own⟩ -
  dsimp only [List.cons_append, List.nil_append]
  refine WL.nil ?_
  refine WC.block ?_
  refine WC.range (α := Unit) (xs := yrU p.rl) (fun i _ => [blkR b3 109 [.func (.func f) #[] cap.toArray], blkR b4 3 [.int .i64 0], bunR A]) (fun i _ => ∀ (j : Nat) y, j < i → p.rl[j]? = some y → q y = false) () rfl en71 yrU_size rfl (by repeat (first | exact Take1.head | apply Take1.tail)) (fun j y h => by omega) (by repeat (first | exact TakeL.nil | (apply TakeL.cons; · repeat (first | exact Take1.head | apply Take1.tail)))) ?_ ?_
  · intro l i x _ hx hs W
    obtain ⟨x, hx0, rfl⟩ := yrU_at hx
    have hxo : x.ok := hG x (List.mem_of_getElem? hx0)
    show WC _ _ _ ((10, .agg x.cells.toArray) :: (9, .int .i64 (i : Int)) :: _) _ _
    refine WC.seq ?_
    refine WC.region ?_
    refine WL.y (Yl.assign rfl) rfl ?_
    refine WL.nil ?_
    refine WC.region ?_
    refine WL.to (To.alloc (cs := Ru.zero.cells) zr24 rfl) rfl ?_
    intro b6
    refine WL.sto (Sto.agg sz24 rfl rfl (by repeat (first | exact Take1.head | apply Take1.tail)) (Ru.ones _) (Ru.len x) (by rfl) (Ru.all Ru.zero x.cells (Ru.len x))) (fun _ h => nomatch h) ?_
    refine WL.nil ?_
    repeat (first | (with_reducible refine peelT ?_) | (with_reducible refine peelB ?_) | (with_reducible refine peelTX ?_) | (with_reducible refine peelBX ?_) | (with_reducible refine peelBN ?_) | (with_reducible refine peelBO rfl ?_))
    refine fun W2 => ?_
    refine WC.block ?_
    refine WC.seq ?_
    refine WC.region ?_
    refine WL.y (Yl.load on109 rfl (by repeat (first | exact Take1.head | apply Take1.tail)) (by rfl)) rfl ?_
    refine WL.y (Yl.move rfl) rfl ?_
    refine WL.y (Yl.loadN ag24 rfl (by repeat (first | exact Take1.head | apply Take1.tail)) (by rfl) (Ru.call x)) rfl ?_
    refine WL.view (fun w h => h.dup (r := bunR A) (by repeat (first | exact Take1.head | apply Take1.tail)) (fun _ h => h)) ?_
    refine WL.callC (f := .tmp 11) (xs := [.tmp 12, .tmp 13]) (cap := cap) rfl rfl hq.en (by repeat (first | exact TakeL.nil | (apply TakeL.cons; · repeat (first | exact Take1.head | apply Take1.tail)))) (fun w hw => hq.gives (i, x) hxo w hw.left.here) rfl ?_
    rintro ⟨⟩ -
    dsimp only [List.cons_append, List.nil_append]
    refine WL.nil ?_
    refine WC.cond rfl (fun g14 => ?_) (fun g14 => ?_)
    · refine WC.seq ?_
      refine WC.region ?_
      refine WL.y (Yl.move rfl) rfl ?_
      refine WL.sto (Sto.one sz3 rfl rfl (by repeat (first | exact Take1.head | apply Take1.tail)) rfl (by rfl) (by rfl)) (fun _ h => nomatch h) ?_
      refine WL.nil ?_
      refine WC.ret ?_
      repeat (first | (with_reducible refine peelT ?_) | (with_reducible refine peelB ?_) | (with_reducible refine peelTX ?_) | (with_reducible refine peelBX ?_) | (with_reducible refine peelBN ?_) | (with_reducible refine peelBO rfl ?_))
      have hf : p.rl.findIdx? q = some i := by
        obtain ⟨hjl, hje⟩ := List.getElem?_eq_some_iff.1 hx0
        exact List.findIdx?_eq_some_iff_getElem.2 ⟨hjl, by rw [hje]; simpa using g14, fun k hk => by
          have := hs k _ hk (List.getElem?_eq_getElem (by omega))
          simp [this]⟩
      rw [hf]
      refine ⟨[blkR b4 3 [.int .i64 (i : Int)]], _, (by repeat (first | exact TakeL.nil | (apply TakeL.cons; · repeat (first | exact Take1.head | apply Take1.tail)))), fun D => ?_⟩
      dsimp only [List.cons_append, List.nil_append]
      repeat (first | (with_reducible refine peelT ?_) | (with_reducible refine peelB ?_) | (with_reducible refine peelTX ?_) | (with_reducible refine peelBX ?_) | (with_reducible refine peelBN ?_) | (with_reducible refine peelBO rfl ?_))
      refine retM.of (.cons (by repeat (first | exact Take1.head | apply Take1.tail)) .nil) ?_
      exact retV1 (.inr rfl) Try.results56 on3 rfl (by repeat (first | exact Take1.head | apply Take1.tail)) fun w' h => ⟨(), trivial, rfl, h.sub (by repeat (first | exact TakeL.nil | (apply TakeL.cons; · repeat (first | exact Take1.head | apply Take1.tail))))⟩
    · refine WC.skip ?_
      repeat (first | (with_reducible refine peelT ?_) | (with_reducible refine peelB ?_) | (with_reducible refine peelTX ?_) | (with_reducible refine peelBX ?_) | (with_reducible refine peelBN ?_) | (with_reducible refine peelBO rfl ?_))
      exact ⟨[blkR b3 109 [.func (.func f) #[] cap.toArray], blkR b4 3 [.int .i64 0], bunR A], _, (by repeat (first | exact TakeL.nil | (apply TakeL.cons; · repeat (first | exact Take1.head | apply Take1.tail)))), (), fun k y hk hy => by
        by_cases e : k = i
        · subst e
          rw [hx0] at hy
          cases hy
          simpa using g14
        · exact hs k y (by omega) hy, rfl⟩
  · rintro _ D hs
    have hf : p.rl.findIdx? q = none := List.findIdx?_eq_none_iff.2 fun x hx => by
      obtain ⟨k, hk⟩ := List.mem_iff_getElem?.1 hx
      exact hs k x (by have := (List.getElem?_eq_some_iff.1 hk).1; rw [yrU_len]; omega) hk
    rw [hf]
    dsimp only [List.cons_append, List.nil_append]
    refine WC.seq ?_
    refine WC.region ?_
    refine WL.sto (Sto.one sz3 rfl rfl (by repeat (first | exact Take1.head | apply Take1.tail)) rfl (by rfl) (by rfl)) (fun _ h => nomatch h) ?_
    refine WL.nil ?_
    refine WC.ret ?_
    repeat (first | (with_reducible refine peelT ?_) | (with_reducible refine peelB ?_) | (with_reducible refine peelTX ?_) | (with_reducible refine peelBX ?_) | (with_reducible refine peelBN ?_) | (with_reducible refine peelBO rfl ?_))
    refine retM.of (.cons (by repeat (first | exact Take1.head | apply Take1.tail)) .nil) ?_
    exact retV1 (.inr rfl) Try.results56 on3 rfl (by repeat (first | exact Take1.head | apply Take1.tail)) fun w' h => ⟨(), trivial, rfl, h.sub (by repeat (first | exact TakeL.nil | (apply TakeL.cons; · repeat (first | exact Take1.head | apply Take1.tail))))⟩
/-- Does a rule fit a call? (the function value of Ask) -/
theorem predAsk (a now : Int) (hn : 0 ≤ now ∧ now < 18446744073709551616) (b4 b5 : Nat) : PredB Try.prog [roR (blkR b4 5 [.int .u8 a]), roR (blkR b5 25 [.int .u64 now])] 57 [.pointer (some ⟨b4, 0, none⟩), .pointer (some ⟨b5, 0, none⟩)] (fun y : Nat × Ru => y.2.ok) (fun y => [.int .i64 (y.1 : Int), ruV y.2]) (fun y => fitU y.2 a now) := by
  refine ⟨en57, ?_⟩
  rintro ⟨i, x⟩ hx w hw
  refine Fn.bun (A := [roR (blkR b4 5 [.int .u8 a]), roR (blkR b5 25 [.int .u64 now])]) (fun hw => ?_) hw
  simp only [List.map_cons, List.map_nil, roR_ro] at hw ⊢
  unfold ruV
  refine enterF Try.func57 rfl Try.ntmps57 rfl hw ?_
  refine WC.seq ?_
  refine WC.region ?_
  refine WL.to (To.box (cs := x.cells) rfl rfl) rfl ?_
  intro b5
  refine WL.y (Yl.assign rfl) rfl ?_
  refine WL.nil ?_
  refine WC.seq ?_
  refine WC.region ?_
  refine WL.y (Yl.loadN ag24 rfl (by repeat (first | exact Take1.head | apply Take1.tail)) (by rfl) (Ru.call x)) rfl ?_
  refine WL.y (Yl.loadRo on5 rfl (by repeat (first | exact Take1.head | apply Take1.tail)) (by rfl)) rfl ?_
  refine WL.y (Yl.loadRo on25 rfl (by repeat (first | exact Take1.head | apply Take1.tail)) (by rfl)) rfl ?_
  refine WL.callC (xs := [.tmp 7, .tmp 8, .tmp 9]) (cap := []) rfl rfl en11 (by repeat (first | exact TakeL.nil | (apply TakeL.cons; · repeat (first | exact Take1.head | apply Take1.tail)))) (fun w hw => fits_any x a now hn w hw.left.here) rfl ?_
  rintro ⟨⟩ -
  refine WL.y (Yl.assign rfl) rfl ?_
  refine WL.nil ?_
  refine WC.ret ?_
  repeat (first | (with_reducible refine peelT ?_) | (with_reducible refine peelB ?_) | (with_reducible refine peelTX ?_) | (with_reducible refine peelBX ?_) | (with_reducible refine peelBN ?_) | (with_reducible refine peelBO rfl ?_))
  exact ret1 (.inr rfl) Try.results57 rfl fun w' h => ⟨(), trivial, rfl, h.sub (by repeat (first | exact TakeL.nil | (apply TakeL.cons; · repeat (first | exact Take1.head | apply Take1.tail))))⟩
end Go.Proofs.Ytnlibngncicobaa
