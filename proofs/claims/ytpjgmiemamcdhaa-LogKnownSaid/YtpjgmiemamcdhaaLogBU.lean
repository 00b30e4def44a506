/- A list of numbers looked through by a predicate, cleared of what it tells, copied; a bounded one likewise: the walks. -/
import Derived.Test.YtpjgmiemamcdhaaLogAU
namespace Go.Proofs.Ytpjgmiemamcdhaa
open Go Go.RowKit

theorem idxU_any (ao : Option Addr) (cap : Nat) (xs : List Int) (pf : FuncId) (pc : List Value) (p : Int → Bool) (hl : xs.length ≤ 1000000) (w : World) (hx : RdS w (fpL []) (.slice ao xs.length cap) 1 xs.length (vcs (Value.int .u32) xs)) (hp : PredS Try.prog w (fpL []) pf pc (fun _ => True) (Value.int .u32) p) (hw : OK w (fpL []) [] w) :
    Fn Try.prog 60 [.slice ao xs.length cap, .func (.func pf) #[] pc.toArray] [] w (fun _ : Unit => True) (fun _ => .int .i64 (if hitF p xs = xs.length then -1 else (hitF p xs : Int))) (fun _ => []) := by
  refine enterF Try.func60 rfl Try.ntmps60 rfl hw ?_
  refine WC.seq ?_
  refine WC.region ?_
  refine WL.y (Yl.assign rfl) rfl ?_ -- t4
  refine WL.nil ?_
  refine WC.seq ?_
  refine WC.seq ?_
  refine WC.region ?_
  refine WL.y (Yl.move rfl) rfl ?_ -- t6
  refine WL.y (Yl.len un22 rfl) rfl ?_ -- t7
  refine WL.y (Yl.move rfl) rfl ?_ -- t8
  refine WL.nil ?_
  refine WC.block ?_
  refine WC.loop (α := Nat) (fun j => [(0, .slice ao xs.length cap), (1, .func (.func pf) #[] pc.toArray), (7, .int .i64 (xs.length : Int)), (8, .int .i64 (j : Int))]) (fun _ => []) (fun j => j ≤ xs.length ∧ ∀ x ∈ xs.take j, p x = false) (fun j => xs.length - j) 0 ⟨Nat.zero_le _, by simp⟩ ⟨(by repeat (first | exact Sub.nil | refine Sub.cons rfl ?_)), _, (by repeat (first | exact TakeL.nil | (apply TakeL.cons; · repeat (first | exact Take1.head | apply Take1.tail))))⟩ ?_
  rintro j ⟨hj, hno⟩
  refine WC.seq ?_
  refine WC.region ?_
  refine WL.y (Yl.lss rfl rfl) rfl ?_ -- t9
  refine WL.nil ?_
  refine WC.seq ?_
  refine WC.condD rfl (fun g9 => ?_) (fun g9 => ?_)
  · refine WC.skip ?_
    refine WC.seq ?_
    refine WC.block ?_
    refine WC.seq ?_
    refine WC.region ?_
    refine WL.y (Yl.move rfl) rfl ?_ -- t10
    refine WL.y (Yl.assign rfl) rfl ?_ -- t5
    refine WL.nil ?_
    refine WC.seq ?_
    refine WC.region ?_
    obtain ⟨x, hx0⟩ : ∃ x, xs[j]? = some x := ⟨_, List.getElem?_eq_getElem (by omega)⟩
    refine WL.y (Yl.move rfl) rfl ?_ -- t11
    refine WL.y (Yl.move rfl) rfl ?_ -- t12
    refine WL.y (Yl.move rfl) rfl ?_ -- t13
    refine WL.y (Yl.index un22 sz23 rfl rfl (Reads.s hx) rfl (by omega)) rfl ?_ -- t14
    refine WL.y (Yl.loadV (j := j) (u := x) vtU (fun _ _ => trivial) rfl (Reads.s hx) rfl hx0) rfl ?_
    refine WL.callC (f := .tmp 11) (xs := [.tmp 15]) (cap := pc) rfl rfl hp.en (by repeat (first | exact TakeL.nil | (apply TakeL.cons; · repeat (first | exact Take1.head | apply Take1.tail)))) (fun w hw => hp.now hw trivial) rfl ?_ -- t16
    rintro ⟨⟩ -
    refine WL.nil ?_
    refine WC.cond rfl (fun g16 => ?_) (fun g16 => ?_)
    · refine WC.seq ?_
      refine WC.region ?_
      refine WL.y (Yl.move rfl) rfl ?_ -- t17
      refine WL.y (Yl.assign rfl) rfl ?_ -- t4
      refine WL.nil ?_
      refine WC.ret ?_
      repeat (first | (with_reducible refine peelT ?_) | (with_reducible refine peelB ?_) | (with_reducible refine peelTX ?_) | (with_reducible refine peelBX ?_) | (with_reducible refine peelBN ?_) | (with_reducible refine peelBO rfl ?_))
      have e : hitF p xs = j := hit_at hx0 hno (by simpa using g16)
      rw [e, if_neg (by omega)]
      exact ret1 (.inr rfl) Try.results60 rfl fun w' h => ⟨(), trivial, rfl, h.sub (by repeat (first | exact TakeL.nil | (apply TakeL.cons; · repeat (first | exact Take1.head | apply Take1.tail))))⟩
    · refine WC.skip ?_
      refine WC.region ?_
      refine WL.y (Yl.add rfl rfl (IntWalk.i64_in _ (by omega))) rfl ?_ -- t18
      refine WL.y (Yl.move rfl) rfl ?_ -- t8
      refine WL.nil ?_
      exact ⟨rfl, j + 1, ⟨by omega, hno_next hx0 hno (by simpa using g16)⟩, by omega, (by repeat (first | exact Sub.nil | refine Sub.cons rfl ?_)), _, (by repeat (first | exact TakeL.nil | (apply TakeL.cons; · repeat (first | exact Take1.head | apply Take1.tail))))⟩
  · refine WC.exit ?_
    refine WC.seq ?_
    refine WC.region ?_
    refine WL.y (Yl.assign rfl) rfl ?_ -- t4
    refine WL.nil ?_
    refine WC.ret ?_
    repeat (first | (with_reducible refine peelT ?_) | (with_reducible refine peelB ?_) | (with_reducible refine peelTX ?_) | (with_reducible refine peelBX ?_) | (with_reducible refine peelBN ?_) | (with_reducible refine peelBO rfl ?_))
    have hjn : j = xs.length := by omega
    subst hjn
    rw [List.take_length] at hno
    rw [hit_end hno, if_pos rfl]
    exact ret1 (.inr rfl) Try.results60 rfl fun w' h => ⟨(), trivial, rfl, h.sub (by repeat (first | exact TakeL.nil | (apply TakeL.cons; · repeat (first | exact Take1.head | apply Take1.tail))))⟩

theorem cloneU_any (v : Value) (xs : List Int) (hl : xs.length ≤ 1000000) (w : World) (hx : RdS w (fpL []) v 1 xs.length (vcs (Value.int .u32) xs)) (hw : OK w (fpL []) [] w) :
    Fn Try.prog 38 [v] [] w (fun _ : Option Addr × Nat => True) (fun y => .slice y.1 xs.length y.2) (fun y => [ownR (.slice y.1 xs.length y.2) 23 1 xs.length (vcs (Value.int .u32) xs)]) := by
  obtain ⟨al, cl, rfl, hcl, hml⟩ := hx.rd.form
  refine enterF Try.func38 rfl Try.ntmps38 rfl hw ?_
  refine WC.seq ?_
  refine WC.region ?_
  refine WL.y (Yl.assign rfl) rfl ?_ -- t2
  refine WL.nil ?_
  refine WC.seq ?_
  refine WC.seq ?_
  refine WC.region ?_
  refine WL.y (Yl.move rfl) rfl ?_ -- t3
  refine WL.y (Yl.eqNil un22 rfl rfl) rfl ?_
  refine WL.nil ?_
  refine WC.cond rfl (fun g4 => ?_) (fun g4 => ?_)
  · refine WC.seq ?_
    refine WC.region ?_
    refine WL.y (Yl.assign rfl) rfl ?_ -- t2
    refine WL.nil ?_
    refine WC.ret ?_
    repeat (first | (with_reducible refine peelT ?_) | (with_reducible refine peelB ?_) | (with_reducible refine peelTX ?_) | (with_reducible refine peelBX ?_) | (with_reducible refine peelBN ?_) | (with_reducible refine peelBO rfl ?_))
    have h0 : xs.length = 0 := by
      rcases hx.rd.2 with ⟨_, h0⟩ | ⟨a, cap, he, _⟩
      · exact h0
      · cases he; simp at g4
    have hxs : xs = [] := List.eq_nil_of_length_eq_zero h0
    subst hxs
    exact ret1 (.inr rfl) Try.results38 rfl fun w' h => ⟨(none, 0), trivial, rfl, (h.addNil 23 1).sub (by repeat (first | exact TakeL.nil | (apply TakeL.cons; · repeat (first | exact Take1.head | apply Take1.tail))))⟩
  · refine WC.skip ?_
    refine WC.seq ?_
    refine WC.region ?_
    refine WL.to (To.buildSlice (vs := []) un22 zs23 rfl rfl (by simp) (by decide) (by decide)) rfl ?_
    intro b5
    rw [show flat [] = [] from rfl]
    refine WL.view (fun w h => h.blkOwn (b := b5) (size := 1) (n := 0) (by repeat (first | exact Take1.head | apply Take1.tail)) (by unfold maxLen; omega) rfl) ?_
    refine WL.y (Yl.move rfl) rfl ?_ -- t6
    refine WL.to (To.append sl22 rfl rfl (by repeat (first | exact Take1.head | apply Take1.tail)) (Reads.s hx) (vtU.ones _) (Nat.zero_add _) (List.nil_append _) (by unfold maxLen; omega) (by omega)) rfl ?_ -- t7
    rintro ⟨⟨ao7, c7⟩, hc7⟩
    dsimp only at hc7 ⊢
    refine WL.y (Yl.assign rfl) rfl ?_ -- t2
    refine WL.nil ?_
    refine WC.ret ?_
    repeat (first | (with_reducible refine peelT ?_) | (with_reducible refine peelB ?_) | (with_reducible refine peelTX ?_) | (with_reducible refine peelBX ?_) | (with_reducible refine peelBN ?_) | (with_reducible refine peelBO rfl ?_))
    exact ret1 (.inr rfl) Try.results38 rfl fun w' h => ⟨(ao7, c7), trivial, rfl, h.sub (by repeat (first | exact TakeL.nil | (apply TakeL.cons; · repeat (first | exact Take1.head | apply Take1.tail))))⟩

theorem delU_any (ao : Option Addr) (cap : Nat) (xs : List Int) (pf : FuncId) (pc : List Value) (p : Int → Bool) (hl : xs.length ≤ 1000000) (w : World) (hw : OK w (fpL [ownR (.slice ao xs.length cap) 23 1 xs.length (vcs (Value.int .u32) xs)]) [ownR (.slice ao xs.length cap) 23 1 xs.length (vcs (Value.int .u32) xs)] w)
    (hp : PredS Try.prog w (fpL [ownR (.slice ao xs.length cap) 23 1 xs.length (vcs (Value.int .u32) xs)]) pf pc (fun _ => True) (Value.int .u32) p) :
    Fn Try.prog 37 [.slice ao xs.length cap, .func (.func pf) #[] pc.toArray] [ownR (.slice ao xs.length cap) 23 1 xs.length (vcs (Value.int .u32) xs)] w (fun _ : Option Addr × Nat => True) (fun y => .slice y.1 (xs.filter fun x => !p x).length y.2) (fun y => [ownR (.slice y.1 (xs.filter fun x => !p x).length y.2) 23 1 (xs.filter fun x => !p x).length (vcs (Value.int .u32) (xs.filter fun x => !p x))]) := by
  obtain ⟨_, _, he, hcl, hml⟩ := (hw.get .head : Sown _ _ _ _ _ _).rd.form
  cases he
  have hhl := hit_le p xs
  refine enterF Try.func37 rfl Try.ntmps37 rfl hw ?_
  refine WC.seq ?_
  refine WC.region ?_
  refine WL.y (Yl.assign rfl) rfl ?_ -- t4
  refine WL.nil ?_
  refine WC.seq ?_
  refine WC.region ?_
  refine WL.y (Yl.move rfl) rfl ?_ -- t8
  refine WL.y (Yl.move rfl) rfl ?_ -- t9
  refine WL.callC (xs := [.tmp 8, .tmp 9]) (cap := []) rfl rfl en60 (by repeat (first | exact TakeL.nil | (apply TakeL.cons; · repeat (first | exact Take1.head | apply Take1.tail)))) (fun w hw => idxU_any ao cap xs pf pc p hl w (hw.src (A := []) RdOf.own (by repeat (first | exact Take1.head | apply Take1.tail))) (hw.srcP (A := []) hp) hw.left.here) rfl ?_ -- t10 slices.IndexFunc[[]uint32,uint32]
  rintro ⟨⟩ -
  refine WL.y (Yl.assign rfl) rfl ?_ -- t5
  refine WL.nil ?_
  refine WC.seq ?_
  refine WC.seq ?_
  refine WC.region ?_
  refine WL.y (Yl.move rfl) rfl ?_ -- t11
  refine WL.y (Yl.eql rfl rfl) rfl ?_ -- t12
  refine WL.nil ?_
  refine WC.condD rfl (fun g12 => ?_) (fun g12 => ?_)
  · refine WC.seq ?_
    refine WC.region ?_
    refine WL.y (Yl.move rfl) rfl ?_ -- t13
    refine WL.y (Yl.assign rfl) rfl ?_ -- t4
    refine WL.nil ?_
    refine WC.ret ?_
    repeat (first | (with_reducible refine peelT ?_) | (with_reducible refine peelB ?_) | (with_reducible refine peelTX ?_) | (with_reducible refine peelBX ?_) | (with_reducible refine peelBN ?_) | (with_reducible refine peelBO rfl ?_))
    have hh : hitF p xs = xs.length := by
      by_cases hh : hitF p xs = xs.length
      · exact hh
      · rw [if_neg hh] at g12; omega
    rw [show (xs.filter fun x => !p x) = xs from hit_none hh]
    exact ret1 (.inr rfl) Try.results37 rfl fun w' h => ⟨(ao, cap), trivial, rfl, h.sub (by repeat (first | exact TakeL.nil | (apply TakeL.cons; · repeat (first | exact Take1.head | apply Take1.tail))))⟩
  · refine WC.skip ?_
    refine WC.seq ?_
    refine WC.seq ?_
    refine WC.region ?_
    have hh : ¬ hitF p xs = xs.length := by
      intro hh
      rw [if_pos hh] at g12
      exact g12 rfl
    rw [if_neg hh]
    refine WL.y (Yl.move rfl) rfl ?_ -- t14
    refine WL.y (Yl.add rfl rfl (IntWalk.i64_in _ (by omega))) rfl ?_ -- t15
    refine WL.say (t := 15) (v' := .int .i64 ((hitF p xs + 1 : Nat) : Int)) rfl (by rfl) ?_
    refine WL.y (Yl.assign rfl) rfl ?_ -- t6
    refine WL.nil ?_
    refine WC.block ?_
    refine WC.loop (α := Nat × Nat × List Int) (fun q => [(0, .slice ao xs.length cap), (1, .func (.func pf) #[] pc.toArray), (5, .int .i64 (q.1 : Int)), (6, .int .i64 (q.2.1 : Int))]) (fun q => [ownR (.slice ao xs.length cap) 23 1 xs.length (vcs (Value.int .u32) q.2.2)]) (fun q => Kept p xs q.1 q.2.1 q.2.2) (fun q => xs.length - q.2.1) (hitF p xs, hitF p xs + 1, xs) (Kept.start hh) ⟨(by repeat (first | exact Sub.nil | refine Sub.cons rfl ?_)), _, (by repeat (first | exact TakeL.nil | (apply TakeL.cons; · repeat (first | exact Take1.head | apply Take1.tail))))⟩ ?_
    rintro ⟨i, j, ys⟩ hk
    dsimp only at hk ⊢
    have hk1 := hk.len
    have hk2 := hk.lt
    have hk3 := hk.le
    refine WC.seq ?_
    refine WC.seq ?_
    refine WC.region ?_
    refine WL.y (Yl.move rfl) rfl ?_ -- t16
    refine WL.y (Yl.move rfl) rfl ?_ -- t17
    refine WL.y (Yl.len un22 rfl) rfl ?_ -- t18
    refine WL.y (Yl.lss rfl rfl) rfl ?_ -- t19
    refine WL.nil ?_
    refine WC.condD rfl (fun g19 => ?_) (fun g19 => ?_)
    · refine WC.skip ?_
      refine WC.seq ?_
      refine WC.block ?_
      refine WC.seq ?_
      refine WC.region ?_
      refine WL.y (Yl.move rfl) rfl ?_ -- t22
      refine WL.y (Yl.move rfl) rfl ?_ -- t23
      obtain ⟨x, hx0⟩ : ∃ x, xs[j]? = some x := ⟨_, List.getElem?_eq_getElem (by omega)⟩
      refine WL.y (Yl.index un22 sz23 rfl rfl (Reads.of RdOf.own (by repeat (first | exact Take1.head | apply Take1.tail))) rfl (by omega)) rfl ?_ -- t24
      refine WL.y (Yl.loadV (j := j) (u := x) vtU (fun _ _ => trivial) rfl (Reads.of RdOf.own (by repeat (first | exact Take1.head | apply Take1.tail))) hk1 (hk.get hx0)) rfl ?_
      refine WL.y (Yl.assign rfl) rfl ?_ -- t7
      refine WL.nil ?_
      refine WC.seq ?_
      refine WC.region ?_
      refine WL.y (Yl.move rfl) rfl ?_ -- t26
      refine WL.y (Yl.move rfl) rfl ?_ -- t27
      refine WL.callC (f := .tmp 26) (xs := [.tmp 27]) (cap := pc) rfl rfl hp.en (by repeat (first | exact TakeL.nil | (apply TakeL.cons; · repeat (first | exact Take1.head | apply Take1.tail)))) (fun w hw => hp.now hw trivial) rfl ?_ -- t28
      rintro ⟨⟩ -
      refine WL.y (Yl.not rfl) rfl ?_ -- t29
      refine WL.nil ?_
      refine WC.cond rfl (fun g29 => ?_) (fun g29 => ?_)
      · refine WC.seq ?_
        refine WC.region ?_
        refine WL.y (Yl.move rfl) rfl ?_ -- t30
        refine WL.y (Yl.move rfl) rfl ?_ -- t31
        refine WL.y (Yl.move rfl) rfl ?_ -- t32
        refine WL.y (Yl.index un22 sz23 rfl rfl (Reads.of RdOf.own (by repeat (first | exact Take1.head | apply Take1.tail))) rfl (by omega)) rfl ?_ -- t33
        refine WL.sto (Sto.elemV (j := i) (u := x) vtU (fun _ _ => trivial) trivial rfl rfl (by repeat (first | exact Take1.head | apply Take1.tail)) hk1 (by omega)) (fun _ h => nomatch h) ?_
        refine WL.nil ?_
        refine WC.region ?_
        refine WL.y (Yl.move rfl) rfl ?_ -- t34
        refine WL.y (Yl.add rfl rfl (IntWalk.i64_in _ (by omega))) rfl ?_ -- t35
        refine WL.y (Yl.assign rfl) rfl ?_ -- t5
        refine WL.nil ?_
        refine WC.region ?_
        refine WL.y (Yl.move rfl) rfl ?_ -- t20
        refine WL.y (Yl.add rfl rfl (IntWalk.i64_in _ (by omega))) rfl ?_ -- t21
        refine WL.y (Yl.assign rfl) rfl ?_ -- t6
        refine WL.nil ?_
        exact ⟨rfl, (i + 1, j + 1, ys.set i x), hk.keep hx0 (by simpa using g29), by dsimp only; omega, (by repeat (first | exact Sub.nil | refine Sub.cons rfl ?_)), _, (by repeat (first | exact TakeL.nil | (apply TakeL.cons; · repeat (first | exact Take1.head | apply Take1.tail))))⟩
      · refine WC.skip ?_
        refine WC.region ?_
        refine WL.y (Yl.move rfl) rfl ?_ -- t20
        refine WL.y (Yl.add rfl rfl (IntWalk.i64_in _ (by omega))) rfl ?_ -- t21
        refine WL.y (Yl.assign rfl) rfl ?_ -- t6
        refine WL.nil ?_
        exact ⟨rfl, (i, j + 1, ys), hk.skip hx0 (by simpa using g29), by dsimp only; omega, (by repeat (first | exact Sub.nil | refine Sub.cons rfl ?_)), _, (by repeat (first | exact TakeL.nil | (apply TakeL.cons; · repeat (first | exact Take1.head | apply Take1.tail))))⟩
    · refine WC.exit ?_
      refine WC.seq ?_
      refine WC.region ?_
      have hjn : j = xs.length := by omega
      subst hjn
      refine WL.y (Yl.move rfl) rfl ?_ -- t36
      refine WL.y (Yl.move rfl) rfl ?_ -- t37
      refine WL.y (Yl.slice un22 sz23 rfl ⟨_, rfl⟩ rfl (by omega) (by omega)) rfl ?_ -- t38
      refine WL.eff (Eff.clear sl22 (by simp [Value.cells]; rfl) rfl (by repeat (first | exact Take1.head | apply Take1.tail)) (by omega) (show _ = vcs (Value.int .u32) (xs.filter fun x => !p x) by rw [vtU.take i (fun _ _ => trivial), hk.done])) ?_
      refine WL.nil ?_
      refine WC.seq ?_
      refine WC.region ?_
      refine WL.y (Yl.move rfl) rfl ?_ -- t39
      refine WL.y (Yl.move rfl) rfl ?_ -- t40
      refine WL.y (Yl.slice un22 sz23 rfl rfl ⟨_, rfl⟩ (by omega) (by omega)) rfl ?_ -- t41
      refine WL.y (Yl.assign rfl) rfl ?_ -- t4
      refine WL.nil ?_
      refine WC.ret ?_
      repeat (first | (with_reducible refine peelT ?_) | (with_reducible refine peelB ?_) | (with_reducible refine peelTX ?_) | (with_reducible refine peelBX ?_) | (with_reducible refine peelBN ?_) | (with_reducible refine peelBO rfl ?_))
      have hil : i = (xs.filter fun x => !p x).length := hk.ilen
      rw [← hil]
      exact ret1 (.inr rfl) Try.results37 rfl fun w' h => ⟨((if cap = 0 then ao else ao.map (·.add (0 * 1))), cap), trivial, rfl, h.sub (by repeat (first | exact TakeL.nil | (apply TakeL.cons; · repeat (first | exact Take1.head | apply Take1.tail))))⟩
end Go.Proofs.Ytpjgmiemamcdhaa
