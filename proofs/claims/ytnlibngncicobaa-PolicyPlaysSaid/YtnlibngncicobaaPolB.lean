/- Rules: whether one may be, whether it fits: the walks; a policy in memory; New, Insert, Remove, Note. -/
import Derived.Test.YtnlibngncicobaaPolA
import Derived.Test.YtnlibngncicobaaLibLs
namespace Go.Proofs.Ytnlibngncicobaa
open Go Go.RowKit
theorem tells_any (d : Int) (w : World) (hw : OK w (fpL []) [] w) :
    Fn Try.prog 33 [.int .u8 d] [] w (fun _ : Unit => True) (fun _ => .bool (telU d)) (fun _ => []) := by
  refine enterF Try.func33 rfl Try.ntmps33 rfl hw ?_
  refine WC.seq ?_
  refine WC.region ?_
  refine WL.y (Yl.assign rfl) rfl ?_
  refine WL.nil ?_
  refine WC.seq ?_
  refine WC.region ?_
  refine WL.y (Yl.move rfl) rfl ?_
  refine WL.y (Yl.geq rfl rfl) rfl ?_
  refine WL.y (Yl.move rfl) rfl ?_
  refine WL.both (t := 5) rfl (fun g5 => ?_) (fun g5 => ?_)
  · refine WL.on rfl rfl ?_
    refine WL.y (Yl.move rfl) rfl ?_
    refine WL.on rfl rfl ?_
    refine WL.y (Yl.leq rfl rfl) rfl ?_
    refine WL.y (Yl.pickT rfl rfl) rfl ?_
    refine WL.y (Yl.assign rfl) rfl ?_
    refine WL.nil ?_
    refine WC.ret ?_
    repeat (first | (with_reducible refine peelT ?_) | (with_reducible refine peelB ?_) | (with_reducible refine peelTX ?_) | (with_reducible refine peelBX ?_) | (with_reducible refine peelBN ?_) | (with_reducible refine peelBO rfl ?_))
    exact ret1 (.inr rfl) Try.results33 rfl fun w' h => ⟨(), trivial, (by unfold telU; simp_all <;> (intros; omega)), h.sub (by repeat (first | exact TakeL.nil | (apply TakeL.cons; · repeat (first | exact Take1.head | apply Take1.tail))))⟩
  · refine WL.off rfl rfl rfl rfl ?_
    refine WL.off rfl rfl rfl rfl ?_
    refine WL.y (Yl.pickF rfl rfl) rfl ?_
    refine WL.y (Yl.assign rfl) rfl ?_
    refine WL.nil ?_
    refine WC.ret ?_
    repeat (first | (with_reducible refine peelT ?_) | (with_reducible refine peelB ?_) | (with_reducible refine peelTX ?_) | (with_reducible refine peelBX ?_) | (with_reducible refine peelBN ?_) | (with_reducible refine peelBO rfl ?_))
    exact ret1 (.inr rfl) Try.results33 rfl fun w' h => ⟨(), trivial, (by unfold telU; simp_all <;> (intros; omega)), h.sub (by repeat (first | exact TakeL.nil | (apply TakeL.cons; · repeat (first | exact Take1.head | apply Take1.tail))))⟩
theorem may_any (r : Ru) (w : World) (hw : OK w (fpL []) [] w) :
    Fn Try.prog 9 [ruV r] [] w (fun _ : Unit => True) (fun _ => .bool (mayU r)) (fun _ => []) := by
  unfold ruV
  refine enterF Try.func9 rfl Try.ntmps9 rfl hw ?_
  refine WC.seq ?_
  refine WC.region ?_
  refine WL.to (To.box (cs := r.cells) rfl rfl) rfl ?_
  intro b1
  refine WL.y (Yl.assign rfl) rfl ?_
  refine WL.nil ?_
  refine WC.seq ?_
  refine WC.region ?_
  refine WL.y (Yl.field fo24_0 rfl) rfl ?_
  refine WL.y (Yl.load on5 rfl (by repeat (first | exact Take1.head | apply Take1.tail)) (by rfl)) rfl ?_
  refine WL.y (Yl.lss rfl rfl) rfl ?_
  refine WL.y (Yl.move rfl) rfl ?_
  refine WL.both (t := 6) rfl (fun g6 => ?_) (fun g6 => ?_)
  · refine WL.off rfl rfl rfl rfl ?_
    refine WL.off rfl rfl rfl rfl ?_
    refine WL.off rfl rfl rfl rfl ?_
    refine WL.y (Yl.pickT rfl rfl) rfl ?_
    refine WL.y (Yl.move rfl) rfl ?_
    refine WL.on rfl rfl ?_
    refine WL.y (Yl.field fo24_1 rfl) rfl ?_
    refine WL.on rfl rfl ?_
    refine WL.y (Yl.load on22 rfl (by repeat (first | exact Take1.head | apply Take1.tail)) (by rfl)) rfl ?_
    refine WL.on rfl rfl ?_
    refine WL.y (Yl.lss rfl rfl) rfl ?_
    refine WL.y (Yl.pickT rfl rfl) rfl ?_
    refine WL.y (Yl.move rfl) rfl ?_
    refine WL.both (t := 16) rfl (fun g16 => ?_) (fun g16 => ?_)
    · refine WL.on rfl rfl ?_
      refine WL.y (Yl.field fo24_2 rfl) rfl ?_
      refine WL.on rfl rfl ?_
      refine WL.y (Yl.load on22 rfl (by repeat (first | exact Take1.head | apply Take1.tail)) (by rfl)) rfl ?_
      refine WL.on rfl rfl ?_
      refine WL.y (Yl.lss rfl rfl) rfl ?_
      refine WL.y (Yl.pickT rfl rfl) rfl ?_
      refine WL.y (Yl.move rfl) rfl ?_
      refine WL.both (t := 21) rfl (fun g21 => ?_) (fun g21 => ?_)
      · refine WL.on rfl rfl ?_
        refine WL.y (Yl.field fo24_3 rfl) rfl ?_
        refine WL.on rfl rfl ?_
        refine WL.y (Yl.load on5 rfl (by repeat (first | exact Take1.head | apply Take1.tail)) (by rfl)) rfl ?_
        refine WL.on rfl rfl ?_
        refine WL.callC (xs := [.tmp 23]) (cap := []) rfl rfl en33 (by repeat (first | exact TakeL.nil | (apply TakeL.cons; · repeat (first | exact Take1.head | apply Take1.tail)))) (fun w hw => tells_any r.dO w hw.left.here) rfl ?_
        rintro ⟨⟩ -
        refine WL.y (Yl.pickT rfl rfl) rfl ?_
        refine WL.y (Yl.assign rfl) rfl ?_
        refine WL.nil ?_
        refine WC.ret ?_
        repeat (first | (with_reducible refine peelT ?_) | (with_reducible refine peelB ?_) | (with_reducible refine peelTX ?_) | (with_reducible refine peelBX ?_) | (with_reducible refine peelBN ?_) | (with_reducible refine peelBO rfl ?_))
        exact ret1 (.inr rfl) Try.results9 rfl fun w' h => ⟨(), trivial, (by unfold mayU; simp_all <;> (intros; omega)), h.sub (by repeat (first | exact TakeL.nil | (apply TakeL.cons; · repeat (first | exact Take1.head | apply Take1.tail))))⟩
      · refine WL.off rfl rfl rfl rfl ?_
        refine WL.off rfl rfl rfl rfl ?_
        refine WL.off rfl rfl rfl rfl ?_
        refine WL.y (Yl.pickF rfl rfl) rfl ?_
        refine WL.y (Yl.assign rfl) rfl ?_
        refine WL.nil ?_
        refine WC.ret ?_
        repeat (first | (with_reducible refine peelT ?_) | (with_reducible refine peelB ?_) | (with_reducible refine peelTX ?_) | (with_reducible refine peelBX ?_) | (with_reducible refine peelBN ?_) | (with_reducible refine peelBO rfl ?_))
        exact ret1 (.inr rfl) Try.results9 rfl fun w' h => ⟨(), trivial, (by unfold mayU; simp_all <;> (intros; omega)), h.sub (by repeat (first | exact TakeL.nil | (apply TakeL.cons; · repeat (first | exact Take1.head | apply Take1.tail))))⟩
    · refine WL.off rfl rfl rfl rfl ?_
      refine WL.off rfl rfl rfl rfl ?_
      refine WL.off rfl rfl rfl rfl ?_
      refine WL.y (Yl.pickF rfl rfl) rfl ?_
      refine WL.y (Yl.move rfl) rfl ?_
      refine WL.off rfl rfl rfl rfl ?_
      refine WL.off rfl rfl rfl rfl ?_
      refine WL.off rfl rfl rfl rfl ?_
      refine WL.y (Yl.pickF rfl rfl) rfl ?_
      refine WL.y (Yl.assign rfl) rfl ?_
      refine WL.nil ?_
      refine WC.ret ?_
      repeat (first | (with_reducible refine peelT ?_) | (with_reducible refine peelB ?_) | (with_reducible refine peelTX ?_) | (with_reducible refine peelBX ?_) | (with_reducible refine peelBN ?_) | (with_reducible refine peelBO rfl ?_))
      exact ret1 (.inr rfl) Try.results9 rfl fun w' h => ⟨(), trivial, (by unfold mayU; simp_all <;> (intros; omega)), h.sub (by repeat (first | exact TakeL.nil | (apply TakeL.cons; · repeat (first | exact Take1.head | apply Take1.tail))))⟩
  · refine WL.on rfl rfl ?_
    refine WL.y (Yl.field fo24_0 rfl) rfl ?_
    refine WL.on rfl rfl ?_
    refine WL.y (Yl.load on5 rfl (by repeat (first | exact Take1.head | apply Take1.tail)) (by rfl)) rfl ?_
    refine WL.on rfl rfl ?_
    refine WL.y (Yl.eql rfl rfl) rfl ?_
    refine WL.y (Yl.pickF rfl rfl) rfl ?_
    refine WL.y (Yl.move rfl) rfl ?_
    refine WL.both (t := 11) rfl (fun g11 => ?_) (fun g11 => ?_)
    · refine WL.on rfl rfl ?_
      refine WL.y (Yl.field fo24_1 rfl) rfl ?_
      refine WL.on rfl rfl ?_
      refine WL.y (Yl.load on22 rfl (by repeat (first | exact Take1.head | apply Take1.tail)) (by rfl)) rfl ?_
      refine WL.on rfl rfl ?_
      refine WL.y (Yl.lss rfl rfl) rfl ?_
      refine WL.y (Yl.pickT rfl rfl) rfl ?_
      refine WL.y (Yl.move rfl) rfl ?_
      refine WL.both (t := 16) rfl (fun g16 => ?_) (fun g16 => ?_)
      · refine WL.on rfl rfl ?_
        refine WL.y (Yl.field fo24_2 rfl) rfl ?_
        refine WL.on rfl rfl ?_
        refine WL.y (Yl.load on22 rfl (by repeat (first | exact Take1.head | apply Take1.tail)) (by rfl)) rfl ?_
        refine WL.on rfl rfl ?_
        refine WL.y (Yl.lss rfl rfl) rfl ?_
        refine WL.y (Yl.pickT rfl rfl) rfl ?_
        refine WL.y (Yl.move rfl) rfl ?_
        refine WL.both (t := 21) rfl (fun g21 => ?_) (fun g21 => ?_)
        · refine WL.on rfl rfl ?_
          refine WL.y (Yl.field fo24_3 rfl) rfl ?_
          refine WL.on rfl rfl ?_
          refine WL.y (Yl.load on5 rfl (by repeat (first | exact Take1.head | apply Take1.tail)) (by rfl)) rfl ?_
          refine WL.on rfl rfl ?_
          refine WL.callC (xs := [.tmp 23]) (cap := []) rfl rfl en33 (by repeat (first | exact TakeL.nil | (apply TakeL.cons; · repeat (first | exact Take1.head | apply Take1.tail)))) (fun w hw => tells_any r.dO w hw.left.here) rfl ?_
          rintro ⟨⟩ -
          refine WL.y (Yl.pickT rfl rfl) rfl ?_
          refine WL.y (Yl.assign rfl) rfl ?_
          refine WL.nil ?_
          refine WC.ret ?_
          repeat (first | (with_reducible refine peelT ?_) | (with_reducible refine peelB ?_) | (with_reducible refine peelTX ?_) | (with_reducible refine peelBX ?_) | (with_reducible refine peelBN ?_) | (with_reducible refine peelBO rfl ?_))
          exact ret1 (.inr rfl) Try.results9 rfl fun w' h => ⟨(), trivial, (by unfold mayU; simp_all <;> (intros; omega)), h.sub (by repeat (first | exact TakeL.nil | (apply TakeL.cons; · repeat (first | exact Take1.head | apply Take1.tail))))⟩
        · refine WL.off rfl rfl rfl rfl ?_
          refine WL.off rfl rfl rfl rfl ?_
          refine WL.off rfl rfl rfl rfl ?_
          refine WL.y (Yl.pickF rfl rfl) rfl ?_
          refine WL.y (Yl.assign rfl) rfl ?_
          refine WL.nil ?_
          refine WC.ret ?_
          repeat (first | (with_reducible refine peelT ?_) | (with_reducible refine peelB ?_) | (with_reducible refine peelTX ?_) | (with_reducible refine peelBX ?_) | (with_reducible refine peelBN ?_) | (with_reducible refine peelBO rfl ?_))
          exact ret1 (.inr rfl) Try.results9 rfl fun w' h => ⟨(), trivial, (by unfold mayU; simp_all <;> (intros; omega)), h.sub (by repeat (first | exact TakeL.nil | (apply TakeL.cons; · repeat (first | exact Take1.head | apply Take1.tail))))⟩
      · refine WL.off rfl rfl rfl rfl ?_
        refine WL.off rfl rfl rfl rfl ?_
        refine WL.off rfl rfl rfl rfl ?_
        refine WL.y (Yl.pickF rfl rfl) rfl ?_
        refine WL.y (Yl.move rfl) rfl ?_
        refine WL.off rfl rfl rfl rfl ?_
        refine WL.off rfl rfl rfl rfl ?_
        refine WL.off rfl rfl rfl rfl ?_
        refine WL.y (Yl.pickF rfl rfl) rfl ?_
        refine WL.y (Yl.assign rfl) rfl ?_
        refine WL.nil ?_
        refine WC.ret ?_
        repeat (first | (with_reducible refine peelT ?_) | (with_reducible refine peelB ?_) | (with_reducible refine peelTX ?_) | (with_reducible refine peelBX ?_) | (with_reducible refine peelBN ?_) | (with_reducible refine peelBO rfl ?_))
        exact ret1 (.inr rfl) Try.results9 rfl fun w' h => ⟨(), trivial, (by unfold mayU; simp_all <;> (intros; omega)), h.sub (by repeat (first | exact TakeL.nil | (apply TakeL.cons; · repeat (first | exact Take1.head | apply Take1.tail))))⟩
    · refine WL.off rfl rfl rfl rfl ?_
      refine WL.off rfl rfl rfl rfl ?_
      refine WL.off rfl rfl rfl rfl ?_
      refine WL.y (Yl.pickF rfl rfl) rfl ?_
      refine WL.y (Yl.move rfl) rfl ?_
      refine WL.off rfl rfl rfl rfl ?_
      refine WL.off rfl rfl rfl rfl ?_
      refine WL.off rfl rfl rfl rfl ?_
      refine WL.y (Yl.pickF rfl rfl) rfl ?_
      refine WL.y (Yl.move rfl) rfl ?_
      refine WL.off rfl rfl rfl rfl ?_
      refine WL.off rfl rfl rfl rfl ?_
      refine WL.off rfl rfl rfl rfl ?_
      refine WL.y (Yl.pickF rfl rfl) rfl ?_
      refine WL.y (Yl.assign rfl) rfl ?_
      refine WL.nil ?_
      refine WC.ret ?_
      repeat (first | (with_reducible refine peelT ?_) | (with_reducible refine peelB ?_) | (with_reducible refine peelTX ?_) | (with_reducible refine peelBX ?_) | (with_reducible refine peelBN ?_) | (with_reducible refine peelBO rfl ?_))
      exact ret1 (.inr rfl) Try.results9 rfl fun w' h => ⟨(), trivial, (by unfold mayU; simp_all <;> (intros; omega)), h.sub (by repeat (first | exact TakeL.nil | (apply TakeL.cons; · repeat (first | exact Take1.head | apply Take1.tail))))⟩
theorem rmay_any (r : Ru) (w : World) (hw : OK w (fpL []) [] w) :
    Fn Try.prog 10 [ruV r] [] w (fun _ : Unit => True) (fun _ => .bool (mayU r)) (fun _ => []) := by
  unfold ruV
  refine enterF Try.func10 rfl Try.ntmps10 rfl hw ?_
  refine WC.seq ?_
  refine WC.region ?_
  refine WL.to (To.box (cs := r.cells) rfl rfl) rfl ?_
  intro b1
  refine WL.y (Yl.assign rfl) rfl ?_
  refine WL.nil ?_
  refine WC.seq ?_
  refine WC.region ?_
  refine WL.y (Yl.field fo27_0 rfl) rfl ?_
  refine WL.y (Yl.load on5 rfl (by repeat (first | exact Take1.head | apply Take1.tail)) (by rfl)) rfl ?_
  refine WL.y (Yl.lss rfl rfl) rfl ?_
  refine WL.y (Yl.move rfl) rfl ?_
  refine WL.both (t := 6) rfl (fun g6 => ?_) (fun g6 => ?_)
  · refine WL.off rfl rfl rfl rfl ?_
    refine WL.off rfl rfl rfl rfl ?_
    refine WL.off rfl rfl rfl rfl ?_
    refine WL.y (Yl.pickT rfl rfl) rfl ?_
    refine WL.y (Yl.move rfl) rfl ?_
    refine WL.on rfl rfl ?_
    refine WL.y (Yl.field fo27_1 rfl) rfl ?_
    refine WL.on rfl rfl ?_
    refine WL.y (Yl.load on22 rfl (by repeat (first | exact Take1.head | apply Take1.tail)) (by rfl)) rfl ?_
    refine WL.on rfl rfl ?_
    refine WL.y (Yl.lss rfl rfl) rfl ?_
    refine WL.y (Yl.pickT rfl rfl) rfl ?_
    refine WL.y (Yl.move rfl) rfl ?_
    refine WL.both (t := 16) rfl (fun g16 => ?_) (fun g16 => ?_)
    · refine WL.on rfl rfl ?_
      refine WL.y (Yl.field fo27_2 rfl) rfl ?_
      refine WL.on rfl rfl ?_
      refine WL.y (Yl.load on22 rfl (by repeat (first | exact Take1.head | apply Take1.tail)) (by rfl)) rfl ?_
      refine WL.on rfl rfl ?_
      refine WL.y (Yl.lss rfl rfl) rfl ?_
      refine WL.y (Yl.pickT rfl rfl) rfl ?_
      refine WL.y (Yl.move rfl) rfl ?_
      refine WL.both (t := 21) rfl (fun g21 => ?_) (fun g21 => ?_)
      · refine WL.on rfl rfl ?_
        refine WL.y (Yl.field fo27_3 rfl) rfl ?_
        refine WL.on rfl rfl ?_
        refine WL.y (Yl.load on5 rfl (by repeat (first | exact Take1.head | apply Take1.tail)) (by rfl)) rfl ?_
        refine WL.on rfl rfl ?_
        refine WL.y (Yl.geq rfl rfl) rfl ?_
        refine WL.y (Yl.pickT rfl rfl) rfl ?_
        refine WL.y (Yl.move rfl) rfl ?_
        refine WL.both (t := 26) rfl (fun g26 => ?_) (fun g26 => ?_)
        · refine WL.on rfl rfl ?_
          refine WL.y (Yl.field fo27_3 rfl) rfl ?_
          refine WL.on rfl rfl ?_
          refine WL.y (Yl.load on5 rfl (by repeat (first | exact Take1.head | apply Take1.tail)) (by rfl)) rfl ?_
          refine WL.on rfl rfl ?_
          refine WL.y (Yl.leq rfl rfl) rfl ?_
          refine WL.y (Yl.pickT rfl rfl) rfl ?_
          refine WL.y (Yl.assign rfl) rfl ?_
          refine WL.nil ?_
          refine WC.ret ?_
          repeat (first | (with_reducible refine peelT ?_) | (with_reducible refine peelB ?_) | (with_reducible refine peelTX ?_) | (with_reducible refine peelBX ?_) | (with_reducible refine peelBN ?_) | (with_reducible refine peelBO rfl ?_))
          exact ret1 (.inr rfl) Try.results10 rfl fun w' h => ⟨(), trivial, (by unfold mayU telU; simp_all <;> (intros; omega)), h.sub (by repeat (first | exact TakeL.nil | (apply TakeL.cons; · repeat (first | exact Take1.head | apply Take1.tail))))⟩
        · refine WL.off rfl rfl rfl rfl ?_
          refine WL.off rfl rfl rfl rfl ?_
          refine WL.off rfl rfl rfl rfl ?_
          refine WL.y (Yl.pickF rfl rfl) rfl ?_
          refine WL.y (Yl.assign rfl) rfl ?_
          refine WL.nil ?_
          refine WC.ret ?_
          repeat (first | (with_reducible refine peelT ?_) | (with_reducible refine peelB ?_) | (with_reducible refine peelTX ?_) | (with_reducible refine peelBX ?_) | (with_reducible refine peelBN ?_) | (with_reducible refine peelBO rfl ?_))
          exact ret1 (.inr rfl) Try.results10 rfl fun w' h => ⟨(), trivial, (by unfold mayU telU; simp_all <;> (intros; omega)), h.sub (by repeat (first | exact TakeL.nil | (apply TakeL.cons; · repeat (first | exact Take1.head | apply Take1.tail))))⟩
      · refine WL.off rfl rfl rfl rfl ?_
        refine WL.off rfl rfl rfl rfl ?_
        refine WL.off rfl rfl rfl rfl ?_
        refine WL.y (Yl.pickF rfl rfl) rfl ?_
        refine WL.y (Yl.move rfl) rfl ?_
        refine WL.off rfl rfl rfl rfl ?_
        refine WL.off rfl rfl rfl rfl ?_
        refine WL.off rfl rfl rfl rfl ?_
        refine WL.y (Yl.pickF rfl rfl) rfl ?_
        refine WL.y (Yl.assign rfl) rfl ?_
        refine WL.nil ?_
        refine WC.ret ?_
        repeat (first | (with_reducible refine peelT ?_) | (with_reducible refine peelB ?_) | (with_reducible refine peelTX ?_) | (with_reducible refine peelBX ?_) | (with_reducible refine peelBN ?_) | (with_reducible refine peelBO rfl ?_))
        exact ret1 (.inr rfl) Try.results10 rfl fun w' h => ⟨(), trivial, (by unfold mayU telU; simp_all <;> (intros; omega)), h.sub (by repeat (first | exact TakeL.nil | (apply TakeL.cons; · repeat (first | exact Take1.head | apply Take1.tail))))⟩
    · refine WL.off rfl rfl rfl rfl ?_
      refine WL.off rfl rfl rfl rfl ?_
      refine WL.off rfl rfl rfl rfl ?_
      refine WL.y (Yl.pickF rfl rfl) rfl ?_
      refine WL.y (Yl.move rfl) rfl ?_
      refine WL.off rfl rfl rfl rfl ?_
      refine WL.off rfl rfl rfl rfl ?_
      refine WL.off rfl rfl rfl rfl ?_
      refine WL.y (Yl.pickF rfl rfl) rfl ?_
      refine WL.y (Yl.move rfl) rfl ?_
      refine WL.off rfl rfl rfl rfl ?_
      refine WL.off rfl rfl rfl rfl ?_
      refine WL.off rfl rfl rfl rfl ?_
      refine WL.y (Yl.pickF rfl rfl) rfl ?_
      refine WL.y (Yl.assign rfl) rfl ?_
      refine WL.nil ?_
      refine WC.ret ?_
      repeat (first | (with_reducible refine peelT ?_) | (with_reducible refine peelB ?_) | (with_reducible refine peelTX ?_) | (with_reducible refine peelBX ?_) | (with_reducible refine peelBN ?_) | (with_reducible refine peelBO rfl ?_))
      exact ret1 (.inr rfl) Try.results10 rfl fun w' h => ⟨(), trivial, (by unfold mayU telU; simp_all <;> (intros; omega)), h.sub (by repeat (first | exact TakeL.nil | (apply TakeL.cons; · repeat (first | exact Take1.head | apply Take1.tail))))⟩
  · refine WL.on rfl rfl ?_
    refine WL.y (Yl.field fo27_0 rfl) rfl ?_
    refine WL.on rfl rfl ?_
    refine WL.y (Yl.load on5 rfl (by repeat (first | exact Take1.head | apply Take1.tail)) (by rfl)) rfl ?_
    refine WL.on rfl rfl ?_
    refine WL.y (Yl.eql rfl rfl) rfl ?_
    refine WL.y (Yl.pickF rfl rfl) rfl ?_
    refine WL.y (Yl.move rfl) rfl ?_
    refine WL.both (t := 11) rfl (fun g11 => ?_) (fun g11 => ?_)
    · refine WL.on rfl rfl ?_
      refine WL.y (Yl.field fo27_1 rfl) rfl ?_
      refine WL.on rfl rfl ?_
      refine WL.y (Yl.load on22 rfl (by repeat (first | exact Take1.head | apply Take1.tail)) (by rfl)) rfl ?_
      refine WL.on rfl rfl ?_
      refine WL.y (Yl.lss rfl rfl) rfl ?_
      refine WL.y (Yl.pickT rfl rfl) rfl ?_
      refine WL.y (Yl.move rfl) rfl ?_
      refine WL.both (t := 16) rfl (fun g16 => ?_) (fun g16 => ?_)
      · refine WL.on rfl rfl ?_
        refine WL.y (Yl.field fo27_2 rfl) rfl ?_
        refine WL.on rfl rfl ?_
        refine WL.y (Yl.load on22 rfl (by repeat (first | exact Take1.head | apply Take1.tail)) (by rfl)) rfl ?_
        refine WL.on rfl rfl ?_
        refine WL.y (Yl.lss rfl rfl) rfl ?_
        refine WL.y (Yl.pickT rfl rfl) rfl ?_
        refine WL.y (Yl.move rfl) rfl ?_
        refine WL.both (t := 21) rfl (fun g21 => ?_) (fun g21 => ?_)
        · refine WL.on rfl rfl ?_
          refine WL.y (Yl.field fo27_3 rfl) rfl ?_
          refine WL.on rfl rfl ?_
          refine WL.y (Yl.load on5 rfl (by repeat (first | exact Take1.head | apply Take1.tail)) (by rfl)) rfl ?_
          refine WL.on rfl rfl ?_
          refine WL.y (Yl.geq rfl rfl) rfl ?_
          refine WL.y (Yl.pickT rfl rfl) rfl ?_
          refine WL.y (Yl.move rfl) rfl ?_
          refine WL.both (t := 26) rfl (fun g26 => ?_) (fun g26 => ?_)
          · refine WL.on rfl rfl ?_
            refine WL.y (Yl.field fo27_3 rfl) rfl ?_
            refine WL.on rfl rfl ?_
            refine WL.y (Yl.load on5 rfl (by repeat (first | exact Take1.head | apply Take1.tail)) (by rfl)) rfl ?_
            refine WL.on rfl rfl ?_
            refine WL.y (Yl.leq rfl rfl) rfl ?_
            refine WL.y (Yl.pickT rfl rfl) rfl ?_
            refine WL.y (Yl.assign rfl) rfl ?_
            refine WL.nil ?_
            refine WC.ret ?_
            repeat (first | (with_reducible refine peelT ?_) | (with_reducible refine peelB ?_) | (with_reducible refine peelTX ?_) | (with_reducible refine peelBX ?_) | (with_reducible refine peelBN ?_) | (with_reducible refine peelBO rfl ?_))
            exact ret1 (.inr rfl) Try.results10 rfl fun w' h => ⟨(), trivial, (by unfold mayU telU; simp_all <;> (intros; omega)), h.sub (by repeat (first | exact TakeL.nil | (apply TakeL.cons; · repeat (first | exact Take1.head | apply Take1.tail))))⟩
          · refine WL.off rfl rfl rfl rfl ?_
            refine WL.off rfl rfl rfl rfl ?_
            refine WL.off rfl rfl rfl rfl ?_
            refine WL.y (Yl.pickF rfl rfl) rfl ?_
            refine WL.y (Yl.assign rfl) rfl ?_
            refine WL.nil ?_
            refine WC.ret ?_
            repeat (first | (with_reducible refine peelT ?_) | (with_reducible refine peelB ?_) | (with_reducible refine peelTX ?_) | (with_reducible refine peelBX ?_) | (with_reducible refine peelBN ?_) | (with_reducible refine peelBO rfl ?_))
            exact ret1 (.inr rfl) Try.results10 rfl fun w' h => ⟨(), trivial, (by unfold mayU telU; simp_all <;> (intros; omega)), h.sub (by repeat (first | exact TakeL.nil | (apply TakeL.cons; · repeat (first | exact Take1.head | apply Take1.tail))))⟩
        · refine WL.off rfl rfl rfl rfl ?_
          refine WL.off rfl rfl rfl rfl ?_
          refine WL.off rfl rfl rfl rfl ?_
          refine WL.y (Yl.pickF rfl rfl) rfl ?_
          refine WL.y (Yl.move rfl) rfl ?_
          refine WL.off rfl rfl rfl rfl ?_
          refine WL.off rfl rfl rfl rfl ?_
          refine WL.off rfl rfl rfl rfl ?_
          refine WL.y (Yl.pickF rfl rfl) rfl ?_
          refine WL.y (Yl.assign rfl) rfl ?_
          refine WL.nil ?_
          refine WC.ret ?_
          repeat (first | (with_reducible refine peelT ?_) | (with_reducible refine peelB ?_) | (with_reducible refine peelTX ?_) | (with_reducible refine peelBX ?_) | (with_reducible refine peelBN ?_) | (with_reducible refine peelBO rfl ?_))
          exact ret1 (.inr rfl) Try.results10 rfl fun w' h => ⟨(), trivial, (by unfold mayU telU; simp_all <;> (intros; omega)), h.sub (by repeat (first | exact TakeL.nil | (apply TakeL.cons; · repeat (first | exact Take1.head | apply Take1.tail))))⟩
      · refine WL.off rfl rfl rfl rfl ?_
        refine WL.off rfl rfl rfl rfl ?_
        refine WL.off rfl rfl rfl rfl ?_
        refine WL.y (Yl.pickF rfl rfl) rfl ?_
        refine WL.y (Yl.move rfl) rfl ?_
        refine WL.off rfl rfl rfl rfl ?_
        refine WL.off rfl rfl rfl rfl ?_
        refine WL.off rfl rfl rfl rfl ?_
        refine WL.y (Yl.pickF rfl rfl) rfl ?_
        refine WL.y (Yl.move rfl) rfl ?_
        refine WL.off rfl rfl rfl rfl ?_
        refine WL.off rfl rfl rfl rfl ?_
        refine WL.off rfl rfl rfl rfl ?_
        refine WL.y (Yl.pickF rfl rfl) rfl ?_
        refine WL.y (Yl.assign rfl) rfl ?_
        refine WL.nil ?_
        refine WC.ret ?_
        repeat (first | (with_reducible refine peelT ?_) | (with_reducible refine peelB ?_) | (with_reducible refine peelTX ?_) | (with_reducible refine peelBX ?_) | (with_reducible refine peelBN ?_) | (with_reducible refine peelBO rfl ?_))
        exact ret1 (.inr rfl) Try.results10 rfl fun w' h => ⟨(), trivial, (by unfold mayU telU; simp_all <;> (intros; omega)), h.sub (by repeat (first | exact TakeL.nil | (apply TakeL.cons; · repeat (first | exact Take1.head | apply Take1.tail))))⟩
    · refine WL.off rfl rfl rfl rfl ?_
      refine WL.off rfl rfl rfl rfl ?_
      refine WL.off rfl rfl rfl rfl ?_
      refine WL.y (Yl.pickF rfl rfl) rfl ?_
      refine WL.y (Yl.move rfl) rfl ?_
      refine WL.off rfl rfl rfl rfl ?_
      refine WL.off rfl rfl rfl rfl ?_
      refine WL.off rfl rfl rfl rfl ?_
      refine WL.y (Yl.pickF rfl rfl) rfl ?_
      refine WL.y (Yl.move rfl) rfl ?_
      refine WL.off rfl rfl rfl rfl ?_
      refine WL.off rfl rfl rfl rfl ?_
      refine WL.off rfl rfl rfl rfl ?_
      refine WL.y (Yl.pickF rfl rfl) rfl ?_
      refine WL.y (Yl.move rfl) rfl ?_
      refine WL.off rfl rfl rfl rfl ?_
      refine WL.off rfl rfl rfl rfl ?_
      refine WL.off rfl rfl rfl rfl ?_
      refine WL.y (Yl.pickF rfl rfl) rfl ?_
      refine WL.y (Yl.assign rfl) rfl ?_
      refine WL.nil ?_
      refine WC.ret ?_
      repeat (first | (with_reducible refine peelT ?_) | (with_reducible refine peelB ?_) | (with_reducible refine peelTX ?_) | (with_reducible refine peelBX ?_) | (with_reducible refine peelBN ?_) | (with_reducible refine peelBO rfl ?_))
      exact ret1 (.inr rfl) Try.results10 rfl fun w' h => ⟨(), trivial, (by unfold mayU telU; simp_all <;> (intros; omega)), h.sub (by repeat (first | exact TakeL.nil | (apply TakeL.cons; · repeat (first | exact Take1.head | apply Take1.tail))))⟩
theorem within_any (r : Ru) (t : Int) (w : World) (hw : OK w (fpL []) [] w) :
    Fn Try.prog 34 [ruV r, .int .u16 t] [] w (fun _ : Unit => True) (fun _ => .bool (wiU r t)) (fun _ => []) := by
  unfold ruV
  refine enterF Try.func34 rfl Try.ntmps34 rfl hw ?_
  refine WC.seq ?_
  refine WC.region ?_
  refine WL.to (To.box (cs := r.cells) rfl rfl) rfl ?_
  intro b2
  refine WL.y (Yl.assign rfl) rfl ?_
  refine WL.nil ?_
  refine WC.seq ?_
  refine WC.block ?_
  refine WC.seq ?_
  refine WC.region ?_
  refine WL.y (Yl.field fo24_1 rfl) rfl ?_
  refine WL.y (Yl.load on22 rfl (by repeat (first | exact Take1.head | apply Take1.tail)) (by rfl)) rfl ?_
  refine WL.y (Yl.field fo24_2 rfl) rfl ?_
  refine WL.y (Yl.load on22 rfl (by repeat (first | exact Take1.head | apply Take1.tail)) (by rfl)) rfl ?_
  refine WL.y (Yl.lss rfl rfl) rfl ?_
  refine WL.y (Yl.assign rfl) rfl ?_
  refine WL.nil ?_
  refine WC.condD rfl (fun g5 => ?_) (fun g5 => ?_)
  · refine WC.seq ?_
    refine WC.region ?_
    refine WL.y (Yl.move rfl) rfl ?_
    refine WL.y (Yl.field fo24_1 rfl) rfl ?_
    refine WL.y (Yl.load on22 rfl (by repeat (first | exact Take1.head | apply Take1.tail)) (by rfl)) rfl ?_
    refine WL.y (Yl.geq rfl rfl) rfl ?_
    refine WL.y (Yl.move rfl) rfl ?_
    refine WL.both (t := 15) rfl (fun g15 => ?_) (fun g15 => ?_)
    · refine WL.on rfl rfl ?_
      refine WL.y (Yl.move rfl) rfl ?_
      refine WL.on rfl rfl ?_
      refine WL.y (Yl.field fo24_2 rfl) rfl ?_
      refine WL.on rfl rfl ?_
      refine WL.y (Yl.load on22 rfl (by repeat (first | exact Take1.head | apply Take1.tail)) (by rfl)) rfl ?_
      refine WL.on rfl rfl ?_
      refine WL.y (Yl.lss rfl rfl) rfl ?_
      refine WL.y (Yl.pickT rfl rfl) rfl ?_
      refine WL.y (Yl.assign rfl) rfl ?_
      refine WL.nil ?_
      refine WC.ret ?_
      repeat (first | (with_reducible refine peelT ?_) | (with_reducible refine peelB ?_) | (with_reducible refine peelTX ?_) | (with_reducible refine peelBX ?_) | (with_reducible refine peelBN ?_) | (with_reducible refine peelBO rfl ?_))
      exact ret1 (.inr rfl) Try.results34 rfl fun w' h => ⟨(), trivial, (by unfold wiU; split <;> (try split) <;> simp_all <;> (first | (intros; omega) | (rw [Bool.eq_iff_iff]; simp; omega))), h.sub (by repeat (first | exact TakeL.nil | (apply TakeL.cons; · repeat (first | exact Take1.head | apply Take1.tail))))⟩
    · refine WL.off rfl rfl rfl rfl ?_
      refine WL.off rfl rfl rfl rfl ?_
      refine WL.off rfl rfl rfl rfl ?_
      refine WL.off rfl rfl rfl rfl ?_
      refine WL.y (Yl.pickF rfl rfl) rfl ?_
      refine WL.y (Yl.assign rfl) rfl ?_
      refine WL.nil ?_
      refine WC.ret ?_
      repeat (first | (with_reducible refine peelT ?_) | (with_reducible refine peelB ?_) | (with_reducible refine peelTX ?_) | (with_reducible refine peelBX ?_) | (with_reducible refine peelBN ?_) | (with_reducible refine peelBO rfl ?_))
      exact ret1 (.inr rfl) Try.results34 rfl fun w' h => ⟨(), trivial, (by unfold wiU; split <;> (try split) <;> simp_all <;> (first | (intros; omega) | (rw [Bool.eq_iff_iff]; simp; omega))), h.sub (by repeat (first | exact TakeL.nil | (apply TakeL.cons; · repeat (first | exact Take1.head | apply Take1.tail))))⟩
  · refine WC.seq ?_
    refine WC.region ?_
    refine WL.y (Yl.field fo24_1 rfl) rfl ?_
    refine WL.y (Yl.load on22 rfl (by repeat (first | exact Take1.head | apply Take1.tail)) (by rfl)) rfl ?_
    refine WL.y (Yl.field fo24_2 rfl) rfl ?_
    refine WL.y (Yl.load on22 rfl (by repeat (first | exact Take1.head | apply Take1.tail)) (by rfl)) rfl ?_
    refine WL.y (Yl.gtr rfl rfl) rfl ?_
    refine WL.y (Yl.assign rfl) rfl ?_
    refine WL.nil ?_
    refine WC.condD rfl (fun g21 => ?_) (fun g21 => ?_)
    · refine WC.seq ?_
      refine WC.region ?_
      refine WL.y (Yl.move rfl) rfl ?_
      refine WL.y (Yl.field fo24_1 rfl) rfl ?_
      refine WL.y (Yl.load on22 rfl (by repeat (first | exact Take1.head | apply Take1.tail)) (by rfl)) rfl ?_
      refine WL.y (Yl.geq rfl rfl) rfl ?_
      refine WL.y (Yl.move rfl) rfl ?_
      refine WL.both (t := 31) rfl (fun g31 => ?_) (fun g31 => ?_)
      · refine WL.off rfl rfl rfl rfl ?_
        refine WL.off rfl rfl rfl rfl ?_
        refine WL.off rfl rfl rfl rfl ?_
        refine WL.off rfl rfl rfl rfl ?_
        refine WL.y (Yl.pickT rfl rfl) rfl ?_
        refine WL.y (Yl.assign rfl) rfl ?_
        refine WL.nil ?_
        refine WC.ret ?_
        repeat (first | (with_reducible refine peelT ?_) | (with_reducible refine peelB ?_) | (with_reducible refine peelTX ?_) | (with_reducible refine peelBX ?_) | (with_reducible refine peelBN ?_) | (with_reducible refine peelBO rfl ?_))
        exact ret1 (.inr rfl) Try.results34 rfl fun w' h => ⟨(), trivial, (by unfold wiU; split <;> (try split) <;> simp_all <;> (first | (intros; omega) | (rw [Bool.eq_iff_iff]; simp; omega))), h.sub (by repeat (first | exact TakeL.nil | (apply TakeL.cons; · repeat (first | exact Take1.head | apply Take1.tail))))⟩
      · refine WL.on rfl rfl ?_
        refine WL.y (Yl.move rfl) rfl ?_
        refine WL.on rfl rfl ?_
        refine WL.y (Yl.field fo24_2 rfl) rfl ?_
        refine WL.on rfl rfl ?_
        refine WL.y (Yl.load on22 rfl (by repeat (first | exact Take1.head | apply Take1.tail)) (by rfl)) rfl ?_
        refine WL.on rfl rfl ?_
        refine WL.y (Yl.lss rfl rfl) rfl ?_
        refine WL.y (Yl.pickF rfl rfl) rfl ?_
        refine WL.y (Yl.assign rfl) rfl ?_
        refine WL.nil ?_
        refine WC.ret ?_
        repeat (first | (with_reducible refine peelT ?_) | (with_reducible refine peelB ?_) | (with_reducible refine peelTX ?_) | (with_reducible refine peelBX ?_) | (with_reducible refine peelBN ?_) | (with_reducible refine peelBO rfl ?_))
        exact ret1 (.inr rfl) Try.results34 rfl fun w' h => ⟨(), trivial, (by unfold wiU; split <;> (try split) <;> simp_all <;> (first | (intros; omega) | (rw [Bool.eq_iff_iff]; simp; omega))), h.sub (by repeat (first | exact TakeL.nil | (apply TakeL.cons; · repeat (first | exact Take1.head | apply Take1.tail))))⟩
    · refine WC.skip ?_
      refine WC.seq ?_
      refine WC.region ?_
      refine WL.y (Yl.assign rfl) rfl ?_
      refine WL.nil ?_
      refine WC.ret ?_
      repeat (first | (with_reducible refine peelT ?_) | (with_reducible refine peelB ?_) | (with_reducible refine peelTX ?_) | (with_reducible refine peelBX ?_) | (with_reducible refine peelBN ?_) | (with_reducible refine peelBO rfl ?_))
      exact ret1 (.inr rfl) Try.results34 rfl fun w' h => ⟨(), trivial, (by unfold wiU; split <;> (try split) <;> simp_all <;> (first | (intros; omega) | (rw [Bool.eq_iff_iff]; simp; omega))), h.sub (by repeat (first | exact TakeL.nil | (apply TakeL.cons; · repeat (first | exact Take1.head | apply Take1.tail))))⟩
set_option maxRecDepth 100000 in
theorem fits_any (r : Ru) (a now : Int) (hn : 0 ≤ now ∧ now < 18446744073709551616) (w : World) (hw : OK w (fpL []) [] w) :
    Fn Try.prog 11 [ruV r, .int .u8 a, .int .u64 now] [] w (fun _ : Unit => True) (fun _ => .bool (fitU r a now)) (fun _ => []) := by
  unfold ruV
  refine enterF Try.func11 rfl Try.ntmps11 rfl hw ?_
  refine WC.seq ?_
  refine WC.region ?_
  refine WL.to (To.box (cs := r.cells) rfl rfl) rfl ?_
  intro b3
  refine WL.y (Yl.assign rfl) rfl ?_
  refine WL.nil ?_
  refine WC.seq ?_
  refine WC.region ?_
  refine WL.y (Yl.field fo24_0 rfl) rfl ?_
  refine WL.y (Yl.load on5 rfl (by repeat (first | exact Take1.head | apply Take1.tail)) (by rfl)) rfl ?_
  refine WL.y (Yl.eql rfl rfl) rfl ?_
  refine WL.y (Yl.move rfl) rfl ?_
  refine WL.both (t := 10) rfl (fun g10 => ?_) (fun g10 => ?_)
  · refine WL.off rfl rfl rfl rfl ?_
    refine WL.off rfl rfl rfl rfl ?_
    refine WL.off rfl rfl rfl rfl ?_
    refine WL.off rfl rfl rfl rfl ?_
    refine WL.y (Yl.pickT rfl rfl) rfl ?_
    refine WL.y (Yl.move rfl) rfl ?_
    refine WL.on rfl rfl ?_
    refine WL.y (Yl.loadN ag24 rfl (by repeat (first | exact Take1.head | apply Take1.tail)) (by rfl) (by rfl)) rfl ?_
    refine WL.on rfl rfl ?_
    refine WL.y (Yl.move rfl) rfl ?_
    refine WL.on rfl rfl ?_
    refine WL.y (Yl.rem rfl rfl (by omega) rfl) rfl ?_
    refine WL.say (t := 19) (v' := .int .u64 (now % 1440)) rfl (by (refine congrArg (Value.int .u64) ?_; exact Int.tmod_eq_emod_of_nonneg hn.1)) ?_
    refine WL.on rfl rfl ?_
    refine WL.y (Yl.conv un25 un22 rfl (IntWalk.u16_in _ (by omega))) rfl ?_
    refine WL.on rfl rfl ?_
    refine WL.callC (xs := [.tmp 17, .tmp 20]) (cap := []) rfl rfl en34 (by repeat (first | exact TakeL.nil | (apply TakeL.cons; · repeat (first | exact Take1.head | apply Take1.tail)))) (fun w hw => within_any r (now % 1440) w hw.left.here) rfl ?_
    rintro ⟨⟩ -
    refine WL.y (Yl.pickT rfl rfl) rfl ?_
    refine WL.y (Yl.assign rfl) rfl ?_
    refine WL.nil ?_
    refine WC.ret ?_
    repeat (first | (with_reducible refine peelT ?_) | (with_reducible refine peelB ?_) | (with_reducible refine peelTX ?_) | (with_reducible refine peelBX ?_) | (with_reducible refine peelBN ?_) | (with_reducible refine peelBO rfl ?_))
    exact ret1 (.inr rfl) Try.results11 rfl fun w' h => ⟨(), trivial, (by unfold fitU; simp_all <;> (intros; omega)), h.sub (by repeat (first | exact TakeL.nil | (apply TakeL.cons; · repeat (first | exact Take1.head | apply Take1.tail))))⟩
  · refine WL.on rfl rfl ?_
    refine WL.y (Yl.field fo24_0 rfl) rfl ?_
    refine WL.on rfl rfl ?_
    refine WL.y (Yl.load on5 rfl (by repeat (first | exact Take1.head | apply Take1.tail)) (by rfl)) rfl ?_
    refine WL.on rfl rfl ?_
    refine WL.y (Yl.move rfl) rfl ?_
    refine WL.on rfl rfl ?_
    refine WL.y (Yl.eql rfl rfl) rfl ?_
    refine WL.y (Yl.pickF rfl rfl) rfl ?_
    refine WL.y (Yl.move rfl) rfl ?_
    refine WL.both (t := 16) rfl (fun g16 => ?_) (fun g16 => ?_)
    · refine WL.on rfl rfl ?_
      refine WL.y (Yl.loadN ag24 rfl (by repeat (first | exact Take1.head | apply Take1.tail)) (by rfl) (by rfl)) rfl ?_
      refine WL.on rfl rfl ?_
      refine WL.y (Yl.move rfl) rfl ?_
      refine WL.on rfl rfl ?_
      refine WL.y (Yl.rem rfl rfl (by omega) rfl) rfl ?_
      refine WL.say (t := 19) (v' := .int .u64 (now % 1440)) rfl (by (refine congrArg (Value.int .u64) ?_; exact Int.tmod_eq_emod_of_nonneg hn.1)) ?_
      refine WL.on rfl rfl ?_
      refine WL.y (Yl.conv un25 un22 rfl (IntWalk.u16_in _ (by omega))) rfl ?_
      refine WL.on rfl rfl ?_
      refine WL.callC (xs := [.tmp 17, .tmp 20]) (cap := []) rfl rfl en34 (by repeat (first | exact TakeL.nil | (apply TakeL.cons; · repeat (first | exact Take1.head | apply Take1.tail)))) (fun w hw => within_any r (now % 1440) w hw.left.here) rfl ?_
      rintro ⟨⟩ -
      refine WL.y (Yl.pickT rfl rfl) rfl ?_
      refine WL.y (Yl.assign rfl) rfl ?_
      refine WL.nil ?_
      refine WC.ret ?_
      repeat (first | (with_reducible refine peelT ?_) | (with_reducible refine peelB ?_) | (with_reducible refine peelTX ?_) | (with_reducible refine peelBX ?_) | (with_reducible refine peelBN ?_) | (with_reducible refine peelBO rfl ?_))
      exact ret1 (.inr rfl) Try.results11 rfl fun w' h => ⟨(), trivial, (by unfold fitU; simp_all <;> (intros; omega)), h.sub (by repeat (first | exact TakeL.nil | (apply TakeL.cons; · repeat (first | exact Take1.head | apply Take1.tail))))⟩
    · refine WL.off rfl rfl rfl rfl ?_
      refine WL.off rfl rfl rfl rfl ?_
      refine WL.off rfl rfl rfl rfl ?_
      refine WL.off rfl rfl rfl rfl ?_
      refine WL.off rfl rfl rfl rfl ?_
      refine WL.y (Yl.pickF rfl rfl) rfl ?_
      refine WL.y (Yl.assign rfl) rfl ?_
      refine WL.nil ?_
      refine WC.ret ?_
      repeat (first | (with_reducible refine peelT ?_) | (with_reducible refine peelB ?_) | (with_reducible refine peelTX ?_) | (with_reducible refine peelBX ?_) | (with_reducible refine peelBN ?_) | (with_reducible refine peelBO rfl ?_))
      exact ret1 (.inr rfl) Try.results11 rfl fun w' h => ⟨(), trivial, (by unfold fitU; simp_all <;> (intros; omega)), h.sub (by repeat (first | exact TakeL.nil | (apply TakeL.cons; · repeat (first | exact Take1.head | apply Take1.tail))))⟩
set_option maxRecDepth 100000 in
theorem rfits_any (r : Ru) (a now : Int) (hn : 0 ≤ now ∧ now < 18446744073709551616) (w : World) (hw : OK w (fpL []) [] w) :
    Fn Try.prog 12 [ruV r, .int .u8 a, .int .u64 now] [] w (fun _ : Unit => True) (fun _ => .bool (fitU r a now)) (fun _ => []) := by
  unfold ruV
  obtain ⟨t, ht⟩ : ∃ t, now % 1440 = t := ⟨_, rfl⟩
  refine enterF Try.func12 rfl Try.ntmps12 rfl hw ?_
  refine WC.seq ?_
  refine WC.region ?_
  refine WL.to (To.box (cs := r.cells) rfl rfl) rfl ?_
  intro b3
  refine WL.y (Yl.assign rfl) rfl ?_
  refine WL.nil ?_
  refine WC.seq ?_
  refine WC.seq ?_
  refine WC.region ?_
  refine WL.y (Yl.field fo27_0 rfl) rfl ?_
  refine WL.y (Yl.load on5 rfl (by repeat (first | exact Take1.head | apply Take1.tail)) (by rfl)) rfl ?_
  refine WL.y (Yl.neq rfl rfl) rfl ?_
  refine WL.y (Yl.move rfl) rfl ?_
  refine WL.both (t := 11) rfl (fun g11 => ?_) (fun g11 => ?_)
  · refine WL.on rfl rfl ?_
    refine WL.y (Yl.field fo27_0 rfl) rfl ?_
    refine WL.on rfl rfl ?_
    refine WL.y (Yl.load on5 rfl (by repeat (first | exact Take1.head | apply Take1.tail)) (by rfl)) rfl ?_
    refine WL.on rfl rfl ?_
    refine WL.y (Yl.move rfl) rfl ?_
    refine WL.on rfl rfl ?_
    refine WL.y (Yl.neq rfl rfl) rfl ?_
    refine WL.y (Yl.pickT rfl rfl) rfl ?_
    refine WL.nil ?_
    refine WC.condD rfl (fun g16 => ?_) (fun g16 => ?_)
    · refine WC.seq ?_
      refine WC.region ?_
      refine WL.y (Yl.assign rfl) rfl ?_
      refine WL.nil ?_
      refine WC.ret ?_
      repeat (first | (with_reducible refine peelT ?_) | (with_reducible refine peelB ?_) | (with_reducible refine peelTX ?_) | (with_reducible refine peelBX ?_) | (with_reducible refine peelBN ?_) | (with_reducible refine peelBO rfl ?_))
      exact ret1 (.inr rfl) Try.results12 rfl fun w' h => ⟨(), trivial, (by unfold fitU wiU; rw [ht]; clear hw h; split <;> (try split) <;> simp_all <;> (first | (intros; omega) | (rw [Bool.eq_iff_iff]; simp; omega))), h.sub (by repeat (first | exact TakeL.nil | (apply TakeL.cons; · repeat (first | exact Take1.head | apply Take1.tail))))⟩
    · refine WC.skip ?_
      refine WC.seq ?_
      refine WC.region ?_
      refine WL.y (Yl.move rfl) rfl ?_
      refine WL.y (Yl.rem rfl rfl (by omega) rfl) rfl ?_
      refine WL.say (t := 18) (v' := .int .u64 (now % 1440)) rfl (by (refine congrArg (Value.int .u64) ?_; exact Int.tmod_eq_emod_of_nonneg hn.1)) ?_
      refine WL.y (Yl.conv un25 un22 rfl (IntWalk.u16_in _ (by omega))) rfl ?_
      rw [ht]
      refine WL.y (Yl.assign rfl) rfl ?_
      refine WL.nil ?_
      refine WC.seq ?_
      refine WC.seq ?_
      refine WC.region ?_
      refine WL.y (Yl.field fo27_1 rfl) rfl ?_
      refine WL.y (Yl.load on22 rfl (by repeat (first | exact Take1.head | apply Take1.tail)) (by rfl)) rfl ?_
      refine WL.y (Yl.field fo27_2 rfl) rfl ?_
      refine WL.y (Yl.load on22 rfl (by repeat (first | exact Take1.head | apply Take1.tail)) (by rfl)) rfl ?_
      refine WL.y (Yl.eql rfl rfl) rfl ?_
      refine WL.nil ?_
      refine WC.condD rfl (fun g24 => ?_) (fun g24 => ?_)
      · refine WC.seq ?_
        refine WC.region ?_
        refine WL.y (Yl.assign rfl) rfl ?_
        refine WL.nil ?_
        refine WC.ret ?_
        repeat (first | (with_reducible refine peelT ?_) | (with_reducible refine peelB ?_) | (with_reducible refine peelTX ?_) | (with_reducible refine peelBX ?_) | (with_reducible refine peelBN ?_) | (with_reducible refine peelBO rfl ?_))
        exact ret1 (.inr rfl) Try.results12 rfl fun w' h => ⟨(), trivial, (by unfold fitU wiU; rw [ht]; clear hw h; split <;> (try split) <;> simp_all <;> (first | (intros; omega) | (rw [Bool.eq_iff_iff]; simp; omega))), h.sub (by repeat (first | exact TakeL.nil | (apply TakeL.cons; · repeat (first | exact Take1.head | apply Take1.tail))))⟩
      · refine WC.skip ?_
        refine WC.seq ?_
        refine WC.seq ?_
        refine WC.region ?_
        refine WL.y (Yl.field fo27_1 rfl) rfl ?_
        refine WL.y (Yl.load on22 rfl (by repeat (first | exact Take1.head | apply Take1.tail)) (by rfl)) rfl ?_
        refine WL.y (Yl.field fo27_2 rfl) rfl ?_
        refine WL.y (Yl.load on22 rfl (by repeat (first | exact Take1.head | apply Take1.tail)) (by rfl)) rfl ?_
        refine WL.y (Yl.lss rfl rfl) rfl ?_
        refine WL.nil ?_
        refine WC.condD rfl (fun g29 => ?_) (fun g29 => ?_)
        · refine WC.seq ?_
          refine WC.region ?_
          refine WL.y (Yl.field fo27_1 rfl) rfl ?_
          refine WL.y (Yl.load on22 rfl (by repeat (first | exact Take1.head | apply Take1.tail)) (by rfl)) rfl ?_
          refine WL.y (Yl.move rfl) rfl ?_
          refine WL.y (Yl.leq rfl rfl) rfl ?_
          refine WL.y (Yl.move rfl) rfl ?_
          refine WL.both (t := 34) rfl (fun g34 => ?_) (fun g34 => ?_)
          · refine WL.on rfl rfl ?_
            refine WL.y (Yl.move rfl) rfl ?_
            refine WL.on rfl rfl ?_
            refine WL.y (Yl.field fo27_2 rfl) rfl ?_
            refine WL.on rfl rfl ?_
            refine WL.y (Yl.load on22 rfl (by repeat (first | exact Take1.head | apply Take1.tail)) (by rfl)) rfl ?_
            refine WL.on rfl rfl ?_
            refine WL.y (Yl.lss rfl rfl) rfl ?_
            refine WL.y (Yl.pickT rfl rfl) rfl ?_
            refine WL.y (Yl.assign rfl) rfl ?_
            refine WL.nil ?_
            refine WC.ret ?_
            repeat (first | (with_reducible refine peelT ?_) | (with_reducible refine peelB ?_) | (with_reducible refine peelTX ?_) | (with_reducible refine peelBX ?_) | (with_reducible refine peelBN ?_) | (with_reducible refine peelBO rfl ?_))
            exact ret1 (.inr rfl) Try.results12 rfl fun w' h => ⟨(), trivial, (by unfold fitU wiU; rw [ht]; clear hw h; split <;> (try split) <;> simp_all <;> (first | (intros; omega) | (rw [Bool.eq_iff_iff]; simp; omega))), h.sub (by repeat (first | exact TakeL.nil | (apply TakeL.cons; · repeat (first | exact Take1.head | apply Take1.tail))))⟩
          · refine WL.off rfl rfl rfl rfl ?_
            refine WL.off rfl rfl rfl rfl ?_
            refine WL.off rfl rfl rfl rfl ?_
            refine WL.off rfl rfl rfl rfl ?_
            refine WL.y (Yl.pickF rfl rfl) rfl ?_
            refine WL.y (Yl.assign rfl) rfl ?_
            refine WL.nil ?_
            refine WC.ret ?_
            repeat (first | (with_reducible refine peelT ?_) | (with_reducible refine peelB ?_) | (with_reducible refine peelTX ?_) | (with_reducible refine peelBX ?_) | (with_reducible refine peelBN ?_) | (with_reducible refine peelBO rfl ?_))
            exact ret1 (.inr rfl) Try.results12 rfl fun w' h => ⟨(), trivial, (by unfold fitU wiU; rw [ht]; clear hw h; split <;> (try split) <;> simp_all <;> (first | (intros; omega) | (rw [Bool.eq_iff_iff]; simp; omega))), h.sub (by repeat (first | exact TakeL.nil | (apply TakeL.cons; · repeat (first | exact Take1.head | apply Take1.tail))))⟩
        · refine WC.skip ?_
          refine WC.seq ?_
          refine WC.region ?_
          refine WL.y (Yl.field fo27_2 rfl) rfl ?_
          refine WL.y (Yl.load on22 rfl (by repeat (first | exact Take1.head | apply Take1.tail)) (by rfl)) rfl ?_
          refine WL.y (Yl.move rfl) rfl ?_
          refine WL.y (Yl.leq rfl rfl) rfl ?_
          refine WL.y (Yl.move rfl) rfl ?_
          refine WL.both (t := 44) rfl (fun g44 => ?_) (fun g44 => ?_)
          · refine WL.on rfl rfl ?_
            refine WL.y (Yl.move rfl) rfl ?_
            refine WL.on rfl rfl ?_
            refine WL.y (Yl.field fo27_1 rfl) rfl ?_
            refine WL.on rfl rfl ?_
            refine WL.y (Yl.load on22 rfl (by repeat (first | exact Take1.head | apply Take1.tail)) (by rfl)) rfl ?_
            refine WL.on rfl rfl ?_
            refine WL.y (Yl.lss rfl rfl) rfl ?_
            refine WL.y (Yl.pickT rfl rfl) rfl ?_
            refine WL.y (Yl.not rfl) rfl ?_
            refine WL.y (Yl.assign rfl) rfl ?_
            refine WL.nil ?_
            refine WC.ret ?_
            repeat (first | (with_reducible refine peelT ?_) | (with_reducible refine peelB ?_) | (with_reducible refine peelTX ?_) | (with_reducible refine peelBX ?_) | (with_reducible refine peelBN ?_) | (with_reducible refine peelBO rfl ?_))
            exact ret1 (.inr rfl) Try.results12 rfl fun w' h => ⟨(), trivial, (by unfold fitU wiU; rw [ht]; clear hw h; split <;> (try split) <;> simp_all <;> (first | (intros; omega) | (rw [Bool.eq_iff_iff]; simp; omega))), h.sub (by repeat (first | exact TakeL.nil | (apply TakeL.cons; · repeat (first | exact Take1.head | apply Take1.tail))))⟩
          · refine WL.off rfl rfl rfl rfl ?_
            refine WL.off rfl rfl rfl rfl ?_
            refine WL.off rfl rfl rfl rfl ?_
            refine WL.off rfl rfl rfl rfl ?_
            refine WL.y (Yl.pickF rfl rfl) rfl ?_
            refine WL.y (Yl.not rfl) rfl ?_
            refine WL.y (Yl.assign rfl) rfl ?_
            refine WL.nil ?_
            refine WC.ret ?_
            repeat (first | (with_reducible refine peelT ?_) | (with_reducible refine peelB ?_) | (with_reducible refine peelTX ?_) | (with_reducible refine peelBX ?_) | (with_reducible refine peelBN ?_) | (with_reducible refine peelBO rfl ?_))
            exact ret1 (.inr rfl) Try.results12 rfl fun w' h => ⟨(), trivial, (by unfold fitU wiU; rw [ht]; clear hw h; split <;> (try split) <;> simp_all <;> (first | (intros; omega) | (rw [Bool.eq_iff_iff]; simp; omega))), h.sub (by repeat (first | exact TakeL.nil | (apply TakeL.cons; · repeat (first | exact Take1.head | apply Take1.tail))))⟩
  · refine WL.off rfl rfl rfl rfl ?_
    refine WL.off rfl rfl rfl rfl ?_
    refine WL.off rfl rfl rfl rfl ?_
    refine WL.off rfl rfl rfl rfl ?_
    refine WL.y (Yl.pickF rfl rfl) rfl ?_
    refine WL.nil ?_
    refine WC.condF rfl (by first | rfl | (simp; done) | (simp; omega)) ?_
    refine WC.skip ?_
    refine WC.seq ?_
    refine WC.region ?_
    refine WL.y (Yl.move rfl) rfl ?_
    refine WL.y (Yl.rem rfl rfl (by omega) rfl) rfl ?_
    refine WL.say (t := 18) (v' := .int .u64 (now % 1440)) rfl (by (refine congrArg (Value.int .u64) ?_; exact Int.tmod_eq_emod_of_nonneg hn.1)) ?_
    refine WL.y (Yl.conv un25 un22 rfl (IntWalk.u16_in _ (by omega))) rfl ?_
    rw [ht]
    refine WL.y (Yl.assign rfl) rfl ?_
    refine WL.nil ?_
    refine WC.seq ?_
    refine WC.seq ?_
    refine WC.region ?_
    refine WL.y (Yl.field fo27_1 rfl) rfl ?_
    refine WL.y (Yl.load on22 rfl (by repeat (first | exact Take1.head | apply Take1.tail)) (by rfl)) rfl ?_
    refine WL.y (Yl.field fo27_2 rfl) rfl ?_
    refine WL.y (Yl.load on22 rfl (by repeat (first | exact Take1.head | apply Take1.tail)) (by rfl)) rfl ?_
    refine WL.y (Yl.eql rfl rfl) rfl ?_
    refine WL.nil ?_
    refine WC.condD rfl (fun g24 => ?_) (fun g24 => ?_)
    · refine WC.seq ?_
      refine WC.region ?_
      refine WL.y (Yl.assign rfl) rfl ?_
      refine WL.nil ?_
      refine WC.ret ?_
      repeat (first | (with_reducible refine peelT ?_) | (with_reducible refine peelB ?_) | (with_reducible refine peelTX ?_) | (with_reducible refine peelBX ?_) | (with_reducible refine peelBN ?_) | (with_reducible refine peelBO rfl ?_))
      exact ret1 (.inr rfl) Try.results12 rfl fun w' h => ⟨(), trivial, (by unfold fitU wiU; rw [ht]; clear hw h; split <;> (try split) <;> simp_all <;> (first | (intros; omega) | (rw [Bool.eq_iff_iff]; simp; omega))), h.sub (by repeat (first | exact TakeL.nil | (apply TakeL.cons; · repeat (first | exact Take1.head | apply Take1.tail))))⟩
    · refine WC.skip ?_
      refine WC.seq ?_
      refine WC.seq ?_
      refine WC.region ?_
      refine WL.y (Yl.field fo27_1 rfl) rfl ?_
      refine WL.y (Yl.load on22 rfl (by repeat (first | exact Take1.head | apply Take1.tail)) (by rfl)) rfl ?_
      refine WL.y (Yl.field fo27_2 rfl) rfl ?_
      refine WL.y (Yl.load on22 rfl (by repeat (first | exact Take1.head | apply Take1.tail)) (by rfl)) rfl ?_
      refine WL.y (Yl.lss rfl rfl) rfl ?_
      refine WL.nil ?_
      refine WC.condD rfl (fun g29 => ?_) (fun g29 => ?_)
      · refine WC.seq ?_
        refine WC.region ?_
        refine WL.y (Yl.field fo27_1 rfl) rfl ?_
        refine WL.y (Yl.load on22 rfl (by repeat (first | exact Take1.head | apply Take1.tail)) (by rfl)) rfl ?_
        refine WL.y (Yl.move rfl) rfl ?_
        refine WL.y (Yl.leq rfl rfl) rfl ?_
        refine WL.y (Yl.move rfl) rfl ?_
        refine WL.both (t := 34) rfl (fun g34 => ?_) (fun g34 => ?_)
        · refine WL.on rfl rfl ?_
          refine WL.y (Yl.move rfl) rfl ?_
          refine WL.on rfl rfl ?_
          refine WL.y (Yl.field fo27_2 rfl) rfl ?_
          refine WL.on rfl rfl ?_
          refine WL.y (Yl.load on22 rfl (by repeat (first | exact Take1.head | apply Take1.tail)) (by rfl)) rfl ?_
          refine WL.on rfl rfl ?_
          refine WL.y (Yl.lss rfl rfl) rfl ?_
          refine WL.y (Yl.pickT rfl rfl) rfl ?_
          refine WL.y (Yl.assign rfl) rfl ?_
          refine WL.nil ?_
          refine WC.ret ?_
          repeat (first | (with_reducible refine peelT ?_) | (with_reducible refine peelB ?_) | (with_reducible refine peelTX ?_) | (with_reducible refine peelBX ?_) | (with_reducible refine peelBN ?_) | (with_reducible refine peelBO rfl ?_))
          exact ret1 (.inr rfl) Try.results12 rfl fun w' h => ⟨(), trivial, (by unfold fitU wiU; rw [ht]; clear hw h; split <;> (try split) <;> simp_all <;> (first | (intros; omega) | (rw [Bool.eq_iff_iff]; simp; omega))), h.sub (by repeat (first | exact TakeL.nil | (apply TakeL.cons; · repeat (first | exact Take1.head | apply Take1.tail))))⟩
        · refine WL.off rfl rfl rfl rfl ?_
          refine WL.off rfl rfl rfl rfl ?_
          refine WL.off rfl rfl rfl rfl ?_
          refine WL.off rfl rfl rfl rfl ?_
          refine WL.y (Yl.pickF rfl rfl) rfl ?_
          refine WL.y (Yl.assign rfl) rfl ?_
          refine WL.nil ?_
          refine WC.ret ?_
          repeat (first | (with_reducible refine peelT ?_) | (with_reducible refine peelB ?_) | (with_reducible refine peelTX ?_) | (with_reducible refine peelBX ?_) | (with_reducible refine peelBN ?_) | (with_reducible refine peelBO rfl ?_))
          exact ret1 (.inr rfl) Try.results12 rfl fun w' h => ⟨(), trivial, (by unfold fitU wiU; rw [ht]; clear hw h; split <;> (try split) <;> simp_all <;> (first | (intros; omega) | (rw [Bool.eq_iff_iff]; simp; omega))), h.sub (by repeat (first | exact TakeL.nil | (apply TakeL.cons; · repeat (first | exact Take1.head | apply Take1.tail))))⟩
      · refine WC.skip ?_
        refine WC.seq ?_
        refine WC.region ?_
        refine WL.y (Yl.field fo27_2 rfl) rfl ?_
        refine WL.y (Yl.load on22 rfl (by repeat (first | exact Take1.head | apply Take1.tail)) (by rfl)) rfl ?_
        refine WL.y (Yl.move rfl) rfl ?_
        refine WL.y (Yl.leq rfl rfl) rfl ?_
        refine WL.y (Yl.move rfl) rfl ?_
        refine WL.both (t := 44) rfl (fun g44 => ?_) (fun g44 => ?_)
        · refine WL.on rfl rfl ?_
          refine WL.y (Yl.move rfl) rfl ?_
          refine WL.on rfl rfl ?_
          refine WL.y (Yl.field fo27_1 rfl) rfl ?_
          refine WL.on rfl rfl ?_
          refine WL.y (Yl.load on22 rfl (by repeat (first | exact Take1.head | apply Take1.tail)) (by rfl)) rfl ?_
          refine WL.on rfl rfl ?_
          refine WL.y (Yl.lss rfl rfl) rfl ?_
          refine WL.y (Yl.pickT rfl rfl) rfl ?_
          refine WL.y (Yl.not rfl) rfl ?_
          refine WL.y (Yl.assign rfl) rfl ?_
          refine WL.nil ?_
          refine WC.ret ?_
          repeat (first | (with_reducible refine peelT ?_) | (with_reducible refine peelB ?_) | (with_reducible refine peelTX ?_) | (with_reducible refine peelBX ?_) | (with_reducible refine peelBN ?_) | (with_reducible refine peelBO rfl ?_))
          exact ret1 (.inr rfl) Try.results12 rfl fun w' h => ⟨(), trivial, (by unfold fitU wiU; rw [ht]; clear hw h; split <;> (try split) <;> simp_all <;> (first | (intros; omega) | (rw [Bool.eq_iff_iff]; simp; omega))), h.sub (by repeat (first | exact TakeL.nil | (apply TakeL.cons; · repeat (first | exact Take1.head | apply Take1.tail))))⟩
        · refine WL.off rfl rfl rfl rfl ?_
          refine WL.off rfl rfl rfl rfl ?_
          refine WL.off rfl rfl rfl rfl ?_
          refine WL.off rfl rfl rfl rfl ?_
          refine WL.y (Yl.pickF rfl rfl) rfl ?_
          refine WL.y (Yl.not rfl) rfl ?_
          refine WL.y (Yl.assign rfl) rfl ?_
          refine WL.nil ?_
          refine WC.ret ?_
          repeat (first | (with_reducible refine peelT ?_) | (with_reducible refine peelB ?_) | (with_reducible refine peelTX ?_) | (with_reducible refine peelBX ?_) | (with_reducible refine peelBN ?_) | (with_reducible refine peelBO rfl ?_))
          exact ret1 (.inr rfl) Try.results12 rfl fun w' h => ⟨(), trivial, (by unfold fitU wiU; rw [ht]; clear hw h; split <;> (try split) <;> simp_all <;> (first | (intros; omega) | (rw [Bool.eq_iff_iff]; simp; omega))), h.sub (by repeat (first | exact TakeL.nil | (apply TakeL.cons; · repeat (first | exact Take1.head | apply Take1.tail))))⟩
end Go.Proofs.Ytnlibngncicobaa
