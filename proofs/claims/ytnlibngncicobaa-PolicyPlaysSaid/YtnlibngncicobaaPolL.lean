/- Policies: the chapter's rows: the walk. -/
import Derived.Test.YtnlibngncicobaaPolK
namespace Go.Proofs.Ytnlibngncicobaa
open Go Go.RowKit
theorem askK_any (b : Nat) (ao : Option Addr) (ca : Nat) (p : Po) (a now : Int) (ha : 0 ≤ a) (hn : 0 ≤ now ∧ now < 18446744073709551616) (hp : p.ok) (w : World) (hw : OK w (fpL (polR b ao ca p)) (polR b ao ca p) w) :
    Fn Try.prog 25 [.pointer (some ⟨b, 0, none⟩), .int .u8 a, .int .u64 now] (polR b ao ca p) w (fun _ : Unit => True) (fun _ => .tuple #[.int .u8 (askU p a now).1, .int .i64 (askU p a now).2]) (fun _ => polR b ao ca p) :=
  Fn.keep (fun hw => ask_any b ao ca p a now ha hn hp w hw) hw
theorem lidleK_any (b : Nat) (ao : Option Addr) (ca : Nat) (p : Po) (hp : p.ok) (w : World) (hw : OK w (fpL (polR b ao ca p)) (polR b ao ca p) w) :
    Fn Try.prog 21 [.pointer (some ⟨b, 0, none⟩)] (polR b ao ca p) w (fun _ : Option Addr × Nat => True) (fun y => .slice y.1 (idleU p.rl).length y.2) (fun y => ownR (.slice y.1 (idleU p.rl).length y.2) 3 1 (idleU p.rl).length (ints .i64 (natI (idleU p.rl))) :: polR b ao ca p) :=
  Fn.keepN (B := fun y : Option Addr × Nat => [ownR (.slice y.1 (idleU p.rl).length y.2) 3 1 (idleU p.rl).length (ints .i64 (natI (idleU p.rl)))]) (fun y s hs k hk => by rw [List.mem_singleton.1 hs] at hk ⊢; exact hk) (fun hw => lidle_any b ao ca p hp w hw) hw
theorem bytesNil_any (w : World) (hw : OK w (fpL []) [] w) :
    Fn Try.prog 24 [.pointer none] [] w (fun _ : Unit => True) (fun _ => .slice none 0 0) (fun _ => []) := by
  refine enterF Try.func24 rfl Try.ntmps24 rfl hw ?_
  refine WC.seq ?_
  refine WC.region ?_
  refine WL.y (Yl.assign rfl) rfl ?_
  refine WL.nil ?_
  refine WC.seq ?_
  refine WC.seq ?_
  refine WC.region ?_
  refine WL.y (Yl.move rfl) rfl ?_
  refine WL.y (Yl.nilEq un33 rfl rfl) rfl ?_
  refine WL.know (t := 7) (b' := true) rfl (by first | rfl | (simp; done) | (simp; omega)) ?_
  refine WL.nil ?_
  refine WC.condT rfl (by first | rfl | (simp; done) | (simp; omega)) ?_
  refine WC.seq ?_
  refine WC.region ?_
  refine WL.y (Yl.assign rfl) rfl ?_
  refine WL.nil ?_
  refine WC.ret ?_
  repeat (first | (with_reducible refine peelT ?_) | (with_reducible refine peelB ?_) | (with_reducible refine peelTX ?_) | (with_reducible refine peelBX ?_) | (with_reducible refine peelBN ?_) | (with_reducible refine peelBO rfl ?_))
  exact ret1 (.inr rfl) Try.results24 rfl fun w' h => ⟨(), trivial, rfl, h.sub (by repeat (first | exact TakeL.nil | (apply TakeL.cons; · repeat (first | exact Take1.head | apply Take1.tail))))⟩
def nr1 : Ru := ⟨3, 0, 0, 3, false⟩
def nr2 : Ru := ⟨255, 1320, 420, 2, true⟩
def nr3 : Ru := ⟨3, 0, 60, 1, false⟩
def nightP : Po := ⟨1, [nr2, nr1, nr3], List.replicate 8 0, List.replicate 8 false⟩
theorem night_is : insP (insP (insP (Po.new 1) 0 nr1) 0 nr2) 2 nr3 = nightP := by kernel_rfl
theorem nr1_ok : nr1.ok := by constructor <;> exact ⟨by decide, by decide⟩
theorem nr2_ok : nr2.ok := by constructor <;> exact ⟨by decide, by decide⟩
theorem nr3_ok : nr3.ok := by constructor <;> exact ⟨by decide, by decide⟩
theorem night_ok : nightP.ok := by
  rw [← night_is]
  exact (((Po.new_ok (by decide)).ins nr1_ok).ins nr2_ok).ins nr3_ok
theorem night_idle : idleU nightP.rl = [2] := by
  have h : (fun i => !decU nightP.rl i) = fun i => !decE nightP.rl (edgU nightP.rl) i := funext fun i => by rw [dec_edges night_ok.rl (fun _ => Iff.rfl) i]
  unfold idleU
  rw [h]
  decide +kernel
/-- The chapter's rows. -/
structure Kr where
  a : Int
  n : Int
  d : Int
  t : Int
def Kr.cells (k : Kr) : List Value := [.int .u8 k.a, .int .u64 k.n, .int .u8 k.d, .int .i64 k.t]
def krV (k : Kr) : Value := .agg k.cells.toArray
theorem Kr.ones (r : Kr) : ∀ v ∈ r.cells, v.oneCell' = true := by
  intro v hv
  simp [Kr.cells] at hv
  rcases hv with rfl | rfl | rfl | rfl <;> rfl
theorem vtK : VT Try.prog 72 4 (fun _ : Kr => True) krV := .agg (cel := Kr.cells) (by kernel_rfl) (by kernel_rfl) (by decide) (fun _ => rfl) (fun r _ => rfl) (fun r => Kr.ones r)
def kRows : List Kr := [⟨1, 600, 1, -1⟩, ⟨1, 1400, 2, 0⟩, ⟨1, 1859, 2, 0⟩, ⟨3, 600, 3, 1⟩, ⟨3, 30, 2, 0⟩]
theorem kRows_is : ∀ x ∈ kRows, askU nightP x.a x.n = (x.d, x.t) ∧ 0 ≤ x.a ∧ 0 ≤ x.n ∧ x.n < 18446744073709551616 := by
  intro x hx
  simp only [kRows, List.mem_cons, List.not_mem_nil, or_false] at hx
  rcases hx with rfl | rfl | rfl | rfl | rfl <;> exact ⟨by kernel_rfl, by decide, by decide, by decide⟩
theorem note_ask : askU (noteU nightP 1 1300) 1 1400 = (1, 0) := by kernel_rfl
set_option maxRecDepth 100000 in
theorem night_any (w : World) (hw : OK w (fpL []) [] w) :
    Fn Try.prog 31 [] [] w (fun _ : Nat × Option Addr × Nat => True) (fun y => .pointer (some ⟨y.1, 0, none⟩)) (fun y => polR y.1 y.2.1 y.2.2 nightP) := by
  obtain ⟨R1, e1⟩ : ∃ R, R = nr1 := ⟨_, rfl⟩
  obtain ⟨R2, e2⟩ : ∃ R, R = nr2 := ⟨_, rfl⟩
  obtain ⟨R3, e3⟩ : ∃ R, R = nr3 := ⟨_, rfl⟩
  have h1 : R1.ok := by rw [e1]; exact nr1_ok
  have h2 : R2.ok := by rw [e2]; exact nr2_ok
  have h3 : R3.ok := by rw [e3]; exact nr3_ok
  have hP0 : (Po.new 1).ok := Po.new_ok (by decide)
  obtain ⟨P1, f1⟩ : ∃ P, insP (Po.new 1) 0 R1 = P := ⟨_, rfl⟩
  obtain ⟨P2, f2⟩ : ∃ P, insP P1 0 R2 = P := ⟨_, rfl⟩
  obtain ⟨P3, f3⟩ : ∃ P, insP P2 2 R3 = P := ⟨_, rfl⟩
  have hP1 : P1.ok := by rw [← f1]; exact hP0.ins h1
  have hP2 : P2.ok := by rw [← f2]; exact hP1.ins h2
  have hN : nightP = P3 := by rw [← night_is, ← f3, ← f2, ← f1, e1, e2, e3]
  rw [hN]
  refine enterF Try.func31 rfl Try.ntmps31 rfl hw ?_
  refine WC.seq ?_
  refine WC.region ?_
  refine WL.y (Yl.assign rfl) rfl ?_
  refine WL.nil ?_
  refine WC.seq ?_
  refine WC.region ?_
  refine WL.callC (xs := [_]) (cap := []) rfl rfl en13 (by repeat (first | exact TakeL.nil | (apply TakeL.cons; · repeat (first | exact Take1.head | apply Take1.tail)))) (fun w hw => newP_any 1 (by decide) w hw.left.here) rfl ?_
  rintro bn -
  refine WL.y (Yl.move rfl) rfl ?_
  refine WL.y (Yl.extract rfl rfl) rfl ?_
  refine WL.y (Yl.extract rfl rfl) rfl ?_
  refine WL.y (Yl.assign rfl) rfl ?_
  refine WL.y (Yl.assign rfl) rfl ?_
  refine WL.nil ?_
  refine WC.seq ?_
  refine WC.region ?_
  refine WL.y (Yl.move rfl) rfl ?_
  refine WL.y (Yl.build rfl (cs := R1.cells) (fun _ => by rw [e1]; kernel_rfl)) rfl ?_
  refine WL.callC (xs := [.tmp 7, _, .tmp 8]) (cap := []) rfl rfl en14 (by repeat (first | exact TakeL.nil | (apply TakeL.cons; · repeat (first | exact Take1.head | apply Take1.tail)))) (fun w hw => insP_any bn none 0 (Po.new 1) 0 R1 hP0 h1 w hw.left.here) rfl ?_
  rintro ⟨a9, c9⟩ -
  rw [f1]
  refine WL.nil ?_
  refine WC.seq ?_
  refine WC.region ?_
  refine WL.y (Yl.move rfl) rfl ?_
  refine WL.y (Yl.build rfl (cs := R2.cells) (fun _ => by rw [e2]; kernel_rfl)) rfl ?_
  refine WL.callC (xs := [.tmp 10, _, .tmp 11]) (cap := []) rfl rfl en14 (by repeat (first | exact TakeL.nil | (apply TakeL.cons; · repeat (first | exact Take1.head | apply Take1.tail)))) (fun w hw => insP_any bn a9 c9 P1 0 R2 hP1 h2 w hw.left.here) rfl ?_
  rintro ⟨a12, c12⟩ -
  rw [f2]
  refine WL.nil ?_
  refine WC.seq ?_
  refine WC.region ?_
  refine WL.y (Yl.move rfl) rfl ?_
  refine WL.y (Yl.build rfl (cs := R3.cells) (fun _ => by rw [e3]; kernel_rfl)) rfl ?_
  refine WL.callC (xs := [.tmp 13, _, .tmp 14]) (cap := []) rfl rfl en14 (by repeat (first | exact TakeL.nil | (apply TakeL.cons; · repeat (first | exact Take1.head | apply Take1.tail)))) (fun w hw => insP_any bn a12 c12 P2 2 R3 hP2 h3 w hw.left.here) rfl ?_
  rintro ⟨a15, c15⟩ -
  rw [f3]
  refine WL.nil ?_
  refine WC.seq ?_
  refine WC.region ?_
  refine WL.y (Yl.move rfl) rfl ?_
  refine WL.y (Yl.assign rfl) rfl ?_
  refine WL.nil ?_
  refine WC.ret ?_
  repeat (first | (with_reducible refine peelT ?_) | (with_reducible refine peelB ?_) | (with_reducible refine peelTX ?_) | (with_reducible refine peelBX ?_) | (with_reducible refine peelBN ?_) | (with_reducible refine peelBO rfl ?_))
  exact ret1 (.inr rfl) Try.results31 rfl fun w' h => ⟨(bn, a15, c15), trivial, rfl, h.sub (by repeat (first | exact TakeL.nil | (apply TakeL.cons; · repeat (first | exact Take1.head | apply Take1.tail))))⟩
end Go.Proofs.Ytnlibngncicobaa
