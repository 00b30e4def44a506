/- Whether texts are great: the walk. -/
import Derived.Test.YtjiolckgjfaapaaShaI
namespace Go.Proofs.Ytjiolckgjfaapaa
open Go Go.RowKit

theorem great_any (ls : List (List Int)) (vs : List Value) (lv : Value) (most : Int) (hmost : most ≤ 1000000) (hvl : vs.length = ls.length) (hone : ∀ bs ∈ ls, bs.length ≤ 140737488355328) (hmany : ls.length ≤ 140737488355328) (w : World)
    (hlv : RdS w (fpL []) lv 1 ls.length vs) (hls : ∀ (i : Nat) v bs, vs[i]? = some v → ls[i]? = some bs → RdS w (fpL []) v 1 bs.length (ints .u8 bs)) (hw : OK w (fpL []) [] w) :
    Fn Try.prog 6 [lv, .int .i64 most] [] w (fun _ : Unit => True) (fun _ => .bool (decide (most < (ls.length + ls.flatten.length : Nat)))) (fun _ => []) := by
  obtain ⟨la, lc, rfl, hlcl, hlml⟩ := hlv.rd.form
  refine enterF Try.func6 rfl Try.ntmps6 rfl hw ?_
  refine WC.seq ?_
  refine WC.region ?_
  refine WL.y (Yl.assign rfl) rfl ?_ -- t4
  refine WL.nil ?_
  refine WC.seq ?_
  refine WC.region ?_
  refine WL.y (Yl.move rfl) rfl ?_ -- t7
  refine WL.y (Yl.len un22 rfl) rfl ?_ -- t8
  refine WL.y (Yl.assign rfl) rfl ?_ -- t5
  refine WL.nil ?_
  refine WC.seq ?_
  refine WC.seq ?_
  refine WC.region ?_
  refine WL.y (Yl.assign rfl) rfl ?_ -- t6
  refine WL.nil ?_
  refine WC.block ?_
  refine WC.loop (α := Nat) (fun j => [(0, .slice la ls.length lc), (1, .int .i64 most), (5, .int .i64 ((ls.length + (ls.take j).flatten.length : Nat) : Int)), (6, .int .i64 (j : Int))]) (fun _ => []) (fun j => j ≤ ls.length ∧ ls.length + (ls.take j).flatten.length ≤ 1000000 + 140737488355328 + 140737488355328) (fun j => ls.length - j) 0 ⟨Nat.zero_le _, by simp; omega⟩ ⟨(by repeat (first | exact Sub.nil | refine Sub.cons rfl ?_)), _, (by repeat (first | exact TakeL.nil | (apply TakeL.cons; · repeat (first | exact Take1.head | apply Take1.tail))))⟩ ?_
  rintro j ⟨hj, hjn⟩
  have hfl := flat_le (ls := ls) j
  refine WC.seq ?_
  refine WC.seq ?_
  refine WC.region ?_
  refine WL.y (Yl.move rfl) rfl ?_ -- t9
  refine WL.y (Yl.move rfl) rfl ?_ -- t10
  refine WL.y (Yl.len un22 rfl) rfl ?_ -- t11
  refine WL.y (Yl.lss rfl rfl) rfl ?_ -- t12
  refine WL.y (Yl.move rfl) rfl ?_ -- t13
  refine WL.both (t := 13) rfl (fun g13 => ?_) (fun g13 => ?_)
  · refine WL.on rfl rfl ?_
    refine WL.y (Yl.move rfl) rfl ?_ -- t14
    refine WL.on rfl rfl ?_
    refine WL.y (Yl.move rfl) rfl ?_ -- t15
    refine WL.on rfl rfl ?_
    refine WL.y (Yl.leq rfl rfl) rfl ?_ -- t16
    refine WL.y (Yl.pickT rfl rfl) rfl ?_ -- t17
    refine WL.nil ?_
    refine WC.condD rfl (fun g17 => ?_) (fun g17 => ?_)
    · refine WC.skip ?_
      refine WC.seq ?_
      refine WC.block ?_
      refine WC.region ?_
      have q13 := of_decide_eq_true g13
      obtain ⟨bv, hbv⟩ : ∃ v, vs[j]? = some v := ⟨_, List.getElem?_eq_getElem (by omega)⟩
      obtain ⟨bs, hbs⟩ : ∃ b, ls[j]? = some b := ⟨_, List.getElem?_eq_getElem (by omega)⟩
      have hx := hls j bv bs hbv hbs
      obtain ⟨bal, bcl, rfl, hbcl, hbml⟩ := hx.rd.form
      have hb1 := hone bs (List.mem_of_getElem? hbs)
      have hnext := flat_take hbs
      have hnl2 : (ls.take (j + 1)).flatten.length = (ls.take j).flatten.length + bs.length := by rw [hnext, List.length_append]
      refine WL.y (Yl.move rfl) rfl ?_ -- t20
      refine WL.y (Yl.move rfl) rfl ?_ -- t21
      refine WL.y (Yl.move rfl) rfl ?_ -- t22
      refine WL.y (Yl.index un22 sz25 rfl rfl (Reads.s hlv) rfl (by omega)) rfl ?_ -- t23
      refine WL.y (Yl.loadE on25 rfl (Reads.s hlv) hbv) rfl ?_ -- t24
      refine WL.y (Yl.len un25 rfl) rfl ?_ -- t25
      refine WL.y (Yl.add rfl rfl (IntWalk.i64_in _ (by omega))) rfl ?_ -- t26
      refine WL.say (t := 26) (v' := .int .i64 ((ls.length + (ls.take (j + 1)).flatten.length : Nat) : Int)) rfl (by (refine congrArg _ ?_; omega)) ?_
      refine WL.y (Yl.assign rfl) rfl ?_ -- t5
      refine WL.nil ?_
      refine WC.region ?_
      refine WL.y (Yl.move rfl) rfl ?_ -- t18
      refine WL.y (Yl.add rfl rfl (IntWalk.i64_in _ (by omega))) rfl ?_ -- t19
      refine WL.y (Yl.assign rfl) rfl ?_ -- t6
      refine WL.nil ?_
      exact ⟨rfl, j + 1, ⟨by omega, by omega⟩, by omega, (by repeat (first | exact Sub.nil | refine Sub.cons rfl ?_)), _, (by repeat (first | exact TakeL.nil | (apply TakeL.cons; · repeat (first | exact Take1.head | apply Take1.tail))))⟩
    · refine WC.exit ?_
      refine WC.seq ?_
      refine WC.region ?_
      refine WL.y (Yl.move rfl) rfl ?_ -- t27
      refine WL.y (Yl.move rfl) rfl ?_ -- t28
      refine WL.y (Yl.gtr rfl rfl) rfl ?_ -- t29
      refine WL.y (Yl.assign rfl) rfl ?_ -- t4
      refine WL.nil ?_
      refine WC.ret ?_
      repeat (first | (with_reducible refine peelT ?_) | (with_reducible refine peelB ?_) | (with_reducible refine peelTX ?_) | (with_reducible refine peelBX ?_) | (with_reducible refine peelBN ?_) | (with_reducible refine peelBO rfl ?_))
      refine ret1 (.inr rfl) Try.results6 rfl fun w' h => ⟨(), trivial, ?_, h.sub (by repeat (first | exact TakeL.nil | (apply TakeL.cons; · repeat (first | exact Take1.head | apply Take1.tail))))⟩
      rw [decide_eq_true (by omega : most < ((ls.length + (ls.take j).flatten.length : Nat) : Int)), decide_eq_true (by omega : most < ((ls.length + ls.flatten.length : Nat) : Int))]
  · refine WL.off rfl rfl rfl rfl ?_ -- t14
    refine WL.off rfl rfl rfl rfl ?_ -- t15
    refine WL.off rfl rfl rfl rfl ?_ -- t16
    refine WL.y (Yl.pickF rfl rfl) rfl ?_ -- t17
    refine WL.nil ?_
    refine WC.condF rfl (by first | rfl | (simp; done) | (simp; omega)) ?_
    refine WC.exit ?_
    refine WC.seq ?_
    refine WC.region ?_
    refine WL.y (Yl.move rfl) rfl ?_ -- t27
    refine WL.y (Yl.move rfl) rfl ?_ -- t28
    refine WL.y (Yl.gtr rfl rfl) rfl ?_ -- t29
    refine WL.y (Yl.assign rfl) rfl ?_ -- t4
    refine WL.nil ?_
    refine WC.ret ?_
    repeat (first | (with_reducible refine peelT ?_) | (with_reducible refine peelB ?_) | (with_reducible refine peelTX ?_) | (with_reducible refine peelBX ?_) | (with_reducible refine peelBN ?_) | (with_reducible refine peelBO rfl ?_))
    have q13 := of_decide_eq_false g13
    have hjl : j = ls.length := by omega
    subst hjl
    rw [← show (ls.take ls.length).flatten = ls.flatten by rw [List.take_length]]
    exact ret1 (.inr rfl) Try.results6 rfl fun w' h => ⟨(), trivial, rfl, h.sub (by repeat (first | exact TakeL.nil | (apply TakeL.cons; · repeat (first | exact Take1.head | apply Take1.tail))))⟩
end Go.Proofs.Ytjiolckgjfaapaa
