/- Devices looked through by a predicate; whether a list is small: the walks. -/
import Derived.Test.YtfdnnlcfolgegaaRosA
namespace Go.Proofs.Ytfdnnlcfolgegaa
open Go Go.RowKit

theorem idxD_any (ao : Option Addr) (cap : Nat) (xs : List Dv) (p : Dv → Bool) (pf : FuncId) (hl : xs.length ≤ 140737488355328) (w : World) (hx : RdS w (fpL []) (.slice ao xs.length cap) 2 xs.length (vcs Dv.val xs)) (hp : PredS Try.prog w (fpL []) pf [] (fun _ : Dv => True) Dv.val p) (hw : OK w (fpL []) [] w) :
    Fn Try.prog 75 [.slice ao xs.length cap, .func (.func pf) #[] #[]] [] w (fun i : Int => (0 ≤ i ↔ xs.any p = true)) (fun i => .int .i64 i) (fun _ => []) := by
  refine enterF Try.func75 rfl Try.ntmps75 rfl hw ?_
  refine WC.seq ?_
  refine WC.region ?_
  refine WL.y (Yl.assign rfl) rfl ?_ -- t4
  refine WL.nil ?_
  refine WC.seq ?_
  refine WC.seq ?_
  refine WC.region ?_
  refine WL.y (Yl.move rfl) rfl ?_ -- t6
  refine WL.y (Yl.len un25 rfl) rfl ?_ -- t7
  refine WL.y (Yl.move rfl) rfl ?_ -- t8
  refine WL.nil ?_
  refine WC.block ?_
  refine WC.loop (α := Nat) (fun j => [(0, .slice ao xs.length cap), (1, .func (.func pf) #[] #[]), (7, .int .i64 (xs.length : Int)), (8, .int .i64 (j : Int))]) (fun _ => []) (fun j => j ≤ xs.length ∧ (xs.take j).any p = false) (fun j => xs.length - j) 0 ⟨Nat.zero_le _, rfl⟩ ⟨(by repeat (first | exact Sub.nil | refine Sub.cons rfl ?_)), _, (by repeat (first | exact TakeL.nil | (apply TakeL.cons; · repeat (first | exact Take1.head | apply Take1.tail))))⟩ ?_
  rintro j ⟨hj, hno⟩
  refine WC.seq ?_
  refine WC.region ?_
  refine WL.y (Yl.lss rfl rfl) rfl ?_ -- t9
  refine WL.nil ?_
  refine WC.seq ?_
  refine WC.condD rfl (fun g9 => ?_) (fun g9 => ?_)
  · refine WC.skip ?_
    refine WC.seq ?_
    refine WC.block ?_
    refine WC.seq ?_
    refine WC.region ?_
    refine WL.y (Yl.move rfl) rfl ?_ -- t10
    refine WL.y (Yl.assign rfl) rfl ?_ -- t5
    refine WL.nil ?_
    refine WC.seq ?_
    refine WC.region ?_
    obtain ⟨x, hx0⟩ : ∃ x, xs[j]? = some x := ⟨_, List.getElem?_eq_getElem (by omega)⟩
    refine WL.y (Yl.move rfl) rfl ?_ -- t11
    refine WL.y (Yl.move rfl) rfl ?_ -- t12
    refine WL.y (Yl.move rfl) rfl ?_ -- t13
    refine WL.y (Yl.index un25 sz31 rfl rfl (Reads.s hx) rfl (by omega)) rfl ?_ -- t14
    refine WL.y (Yl.loadV (j := j) (u := x) dvV dvAll rfl (Reads.s hx) rfl hx0) rfl ?_
    refine WL.callC (f := .tmp 11) (xs := [.tmp 15]) (cap := []) rfl rfl hp.en (by repeat (first | exact TakeL.nil | (apply TakeL.cons; · repeat (first | exact Take1.head | apply Take1.tail)))) (fun w hw => hp.now hw trivial) rfl ?_ -- t16
    rintro ⟨⟩ -
    refine WL.nil ?_
    refine WC.cond rfl (fun g16 => ?_) (fun g16 => ?_)
    · refine WC.seq ?_
      refine WC.region ?_
      refine WL.y (Yl.move rfl) rfl ?_ -- t17
      refine WL.y (Yl.assign rfl) rfl ?_ -- t4
      refine WL.nil ?_
      refine WC.ret ?_
      repeat (first | (with_reducible refine peelT ?_) | (with_reducible refine peelB ?_) | (with_reducible refine peelTX ?_) | (with_reducible refine peelBX ?_) | (with_reducible refine peelBN ?_) | (with_reducible refine peelBO rfl ?_))
      exact ret1 (.inr rfl) Try.results75 rfl fun w' h => ⟨(j : Int), ⟨fun _ => List.any_eq_true.2 ⟨x, List.mem_of_getElem? hx0, g16⟩, fun _ => by omega⟩, rfl, h.sub (by repeat (first | exact TakeL.nil | (apply TakeL.cons; · repeat (first | exact Take1.head | apply Take1.tail))))⟩
    · refine WC.skip ?_
      refine WC.region ?_
      refine WL.y (Yl.add rfl rfl (IntWalk.i64_in _ (by omega))) rfl ?_ -- t18
      refine WL.y (Yl.move rfl) rfl ?_ -- t8
      refine WL.nil ?_
      exact ⟨rfl, j + 1, ⟨by omega, by rw [← take_snoc _ _ _ hx0, List.any_append, hno]; simpa using g16⟩, by omega, (by repeat (first | exact Sub.nil | refine Sub.cons rfl ?_)), _, (by repeat (first | exact TakeL.nil | (apply TakeL.cons; · repeat (first | exact Take1.head | apply Take1.tail))))⟩
  · refine WC.exit ?_
    refine WC.seq ?_
    refine WC.region ?_
    refine WL.y (Yl.assign rfl) rfl ?_ -- t4
    refine WL.nil ?_
    refine WC.ret ?_
    repeat (first | (with_reducible refine peelT ?_) | (with_reducible refine peelB ?_) | (with_reducible refine peelTX ?_) | (with_reducible refine peelBX ?_) | (with_reducible refine peelBN ?_) | (with_reducible refine peelBO rfl ?_))
    have hjn : j = xs.length := by omega
    subst hjn
    rw [List.take_length] at hno
    exact ret1 (.inr rfl) Try.results75 rfl fun w' h => ⟨-1, by rw [hno]; simp, rfl, h.sub (by repeat (first | exact TakeL.nil | (apply TakeL.cons; · repeat (first | exact Take1.head | apply Take1.tail))))⟩
theorem contF_any (ao : Option Addr) (cap : Nat) (xs : List Dv) (p : Dv → Bool) (pf : FuncId) (hl : xs.length ≤ 140737488355328) (w : World) (hx : RdS w (fpL []) (.slice ao xs.length cap) 2 xs.length (vcs Dv.val xs)) (hp : PredS Try.prog w (fpL []) pf [] (fun _ : Dv => True) Dv.val p) (hw : OK w (fpL []) [] w) :
    Fn Try.prog 57 [.slice ao xs.length cap, .func (.func pf) #[] #[]] [] w (fun _ : Unit => True) (fun _ => .bool (xs.any p)) (fun _ => []) := by
  refine enterF Try.func57 rfl Try.ntmps57 rfl hw ?_
  refine WC.seq ?_
  refine WC.region ?_
  refine WL.y (Yl.assign rfl) rfl ?_ -- t4
  refine WL.nil ?_
  refine WC.seq ?_
  refine WC.region ?_
  refine WL.y (Yl.move rfl) rfl ?_ -- t5
  refine WL.y (Yl.move rfl) rfl ?_ -- t6
  refine WL.callC (xs := [.tmp 5, .tmp 6]) (cap := []) rfl rfl en75 (by repeat (first | exact TakeL.nil | (apply TakeL.cons; · repeat (first | exact Take1.head | apply Take1.tail)))) (fun w hw => idxD_any ao cap xs p pf hl w (hw.srcS (A := []) hx) (hw.srcP (A := []) hp) hw.left.here) rfl ?_ -- t7 slices.IndexFunc[[]hailer/api.Dev,hailer/api.Dev]
  intro i hi
  refine WL.y (Yl.geq rfl rfl) rfl ?_ -- t8
  refine WL.y (Yl.assign rfl) rfl ?_ -- t4
  refine WL.nil ?_
  refine WC.ret ?_
  repeat (first | (with_reducible refine peelT ?_) | (with_reducible refine peelB ?_) | (with_reducible refine peelTX ?_) | (with_reducible refine peelBX ?_) | (with_reducible refine peelBN ?_) | (with_reducible refine peelBO rfl ?_))
  exact ret1 (.inr rfl) Try.results57 rfl fun w' h => ⟨(), trivial, by
    congr 2
    cases e : xs.any p with
    | true => exact decide_eq_true (hi.2 e)
    | false => exact decide_eq_false (fun h0 => by have := hi.1 h0; rw [e] at this; cases this), h.sub (by repeat (first | exact TakeL.nil | (apply TakeL.cons; · repeat (first | exact Take1.head | apply Take1.tail))))⟩
theorem small_any (v : Value) (xs : List Dv) (hl : xs.length ≤ 140737488355328) (w : World) (hx : RdS w (fpL []) v 2 xs.length (vcs Dv.val xs)) (hw : OK w (fpL []) [] w) :
    Fn Try.prog 39 [v] [] w (fun _ : Unit => True) (fun _ => .bool (!xs.any Dv.big)) (fun _ => []) := by
  obtain ⟨al, cl, rfl, hcl, hml⟩ := hx.rd.form
  refine enterF Try.func39 rfl Try.ntmps39 rfl hw ?_
  refine WC.seq ?_
  refine WC.region ?_
  refine WL.y (Yl.assign rfl) rfl ?_ -- t2
  refine WL.nil ?_
  refine WC.seq ?_
  refine WC.region ?_
  refine WL.y (Yl.move rfl) rfl ?_ -- t3
  refine WL.callC (xs := [.tmp 3, .func 58]) (cap := []) rfl rfl en57 (by repeat (first | exact TakeL.nil | (apply TakeL.cons; · repeat (first | exact Take1.head | apply Take1.tail)))) (fun w hw => contF_any al cl xs Dv.big 58 hl w (hw.srcS (A := []) hx) ⟨en58, fun w' _ x _ => small1_any x w' (OK.nil _ _)⟩ hw.left.here) rfl ?_ -- t4 slices.ContainsFunc[[]hailer/api.Dev,hailer/api.Dev]
  rintro ⟨⟩ -
  refine WL.y (Yl.not rfl) rfl ?_ -- t5
  refine WL.y (Yl.assign rfl) rfl ?_ -- t2
  refine WL.nil ?_
  refine WC.ret ?_
  repeat (first | (with_reducible refine peelT ?_) | (with_reducible refine peelB ?_) | (with_reducible refine peelTX ?_) | (with_reducible refine peelBX ?_) | (with_reducible refine peelBN ?_) | (with_reducible refine peelBO rfl ?_))
  exact ret1 (.inr rfl) Try.results39 rfl fun w' h => ⟨(), trivial, rfl, h.sub (by repeat (first | exact TakeL.nil | (apply TakeL.cons; · repeat (first | exact Take1.head | apply Take1.tail))))⟩
end Go.Proofs.Ytfdnnlcfolgegaa
