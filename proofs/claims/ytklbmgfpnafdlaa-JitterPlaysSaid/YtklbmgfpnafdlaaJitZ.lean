/- The document's buffer: the walks. -/
import Derived.Test.YtklbmgfpnafdlaaJitU
import Derived.Test.YtklbmgfpnafdlaaJitV
import Derived.Test.YtklbmgfpnafdlaaJitC
import Derived.Test.YtklbmgfpnafdlaaLibR
import Derived.Test.YtklbmgfpnafdlaaLibLs
namespace Go.Proofs.Ytklbmgfpnafdlaa
open Go Go.RowKit

def thC (p : Int × Int) : List Value := [.int .u64 p.1, .int .u32 p.2]
def thV (p : Int × Int) : Value := .agg (thC p).toArray
theorem thOnes (p : Int × Int) : ∀ v ∈ thC p, v.oneCell' = true := by
  intro v hv
  simp only [thC, List.mem_cons, List.not_mem_nil, or_false] at hv
  rcases hv with rfl | rfl <;> rfl
theorem vtT : VT Try.prog 46 2 (fun _ : Int × Int => True) thV := .agg (cel := thC) ag46 (by kernel_rfl) (by decide) (fun _ => rfl) (fun _ _ => rfl) thOnes
theorem thAll {L : List (Int × Int)} : ∀ x ∈ L, (fun _ : Int × Int => True) x := fun _ _ => trivial
theorem th_len (L : List (Int × Int)) : (vcs thV L).length = L.length * 2 := vtT.size thAll
theorem th_take (L : List (Int × Int)) (i : Nat) : (vcs thV L).take (i * 2) = vcs thV (L.take i) := vtT.take i thAll
theorem th_drop (L : List (Int × Int)) (i : Nat) : (vcs thV L).drop (i * 2) = vcs thV (L.drop i) := vtT.drop i thAll
theorem th_at {L : List (Int × Int)} {j : Nat} {p : Int × Int} (h : L[j]? = some p) : (vcs thV L)[j * 2 + 0]? = some (.int .u64 p.1) ∧ (vcs thV L)[j * 2 + 1]? = some (.int .u32 p.2) := by
  have h1 := vtT.at thAll h
  have e : ∀ k, k < 2 → (vcs thV L)[j * 2 + k]? = (thC p)[k]? := by
    intro k hk
    have := congrArg (fun l => l[k]?) h1
    simp only [List.getElem?_take, List.getElem?_drop, hk, if_true] at this
    rw [this]
    rfl
  exact ⟨e 0 (by omega), e 1 (by omega)⟩
def Jb.rcells (B : Jb) (v : Value) : List Value := [.int .u64 B.d, .int .u64 B.s, .bool B.so, .bool B.ov, .int .u64 B.fi, .int .u64 B.tm, .int .u64 B.nx, v, .int .u64 B.k, .int .u64 B.p, .int .u64 B.l, .int .u64 B.t, .int .u64 B.e, .int .u64 B.f]
def rfR (b : Nat) (ao : Option Addr) (ca : Nat) (B : Jb) (L : List (Int × Int)) : List Res := [blkR b 35 (B.rcells (.slice ao L.length ca)), ownR (.slice ao L.length ca) 46 2 L.length (vcs thV L)]

theorem rplus_any (a b : Int) (ha : U6 a) (hb : U6 b) (w : World) (hw : OK w (fpL []) [] w) : Fn Try.prog 48 [.int .u64 a, .int .u64 b] [] w (fun _ : Unit => True) (fun _ => .int .u64 (plF a b)) (fun _ => []) := by
  have ha0 := ha.1
  have hb0 := hb.1
  have ha1 := ha.2
  have hb1 := hb.2
  refine enterF Try.func48 rfl Try.ntmps48 rfl hw ?_
  refine WC.seq ?_
  refine WC.region ?_
  refine WL.y (Yl.assign rfl) rfl ?_ -- t4
  refine WL.nil ?_
  refine WC.seq ?_
  refine WC.seq ?_
  refine WC.region ?_
  refine WL.y (Yl.move rfl) rfl ?_ -- t5
  refine WL.y (Yl.move rfl) rfl ?_ -- t6
  refine WL.y (Yl.sub rfl rfl rfl) rfl ?_ -- t7
  refine WL.say (t := 7) (v' := .int .u64 (18446744073709551615 - b)) rfl (by exact congrArg _ (wr_in ⟨by omega, by omega⟩)) ?_
  refine WL.y (Yl.gtr rfl rfl) rfl ?_ -- t8
  refine WL.nil ?_
  refine WC.condD rfl (fun g8 => ?_) (fun g8 => ?_)
  · refine WC.seq ?_
    refine WC.region ?_
    refine WL.y (Yl.assign rfl) rfl ?_ -- t4
    refine WL.nil ?_
    refine WC.ret ?_
    repeat (first | (with_reducible refine peelT ?_) | (with_reducible refine peelB ?_) | (with_reducible refine peelTX ?_) | (with_reducible refine peelBX ?_) | (with_reducible refine peelBN ?_) | (with_reducible refine peelBO rfl ?_))
    have h1 : ¬ a + b < 18446744073709551616 := by omega
    exact ret1 (.inr rfl) Try.results48 rfl fun w' h => ⟨(), trivial, by unfold plF; rw [if_neg h1], h.sub (by repeat (first | exact TakeL.nil | (apply TakeL.cons; · repeat (first | exact Take1.head | apply Take1.tail))))⟩
  · refine WC.skip ?_
    refine WC.seq ?_
    refine WC.region ?_
    refine WL.y (Yl.move rfl) rfl ?_ -- t9
    refine WL.y (Yl.move rfl) rfl ?_ -- t10
    refine WL.y (Yl.add rfl rfl rfl) rfl ?_ -- t11
    refine WL.say (t := 11) (v' := .int .u64 (a + b)) rfl (by exact congrArg _ (wr_in ⟨by omega, by omega⟩)) ?_
    refine WL.y (Yl.assign rfl) rfl ?_ -- t4
    refine WL.nil ?_
    refine WC.ret ?_
    repeat (first | (with_reducible refine peelT ?_) | (with_reducible refine peelB ?_) | (with_reducible refine peelTX ?_) | (with_reducible refine peelBX ?_) | (with_reducible refine peelBN ?_) | (with_reducible refine peelBO rfl ?_))
    have h1 : a + b < 18446744073709551616 := by omega
    exact ret1 (.inr rfl) Try.results48 rfl fun w' h => ⟨(), trivial, by unfold plF; rw [if_pos h1], h.sub (by repeat (first | exact TakeL.nil | (apply TakeL.cons; · repeat (first | exact Take1.head | apply Take1.tail))))⟩
theorem quo_top {s n : Int} (hs : 0 < s) : 18446744073709551615 / s < n ↔ 18446744073709551616 ≤ n * s := by
  rw [Int.ediv_lt_iff_lt_mul hs]
  omega
theorem rdue_any (b : Nat) (v : Value) (B : Jb) (ctr : Int) (hB : B.ok) (hs : 0 < B.s) (w : World) (hw : OK w (fpL [blkR b 35 (B.rcells v)]) [blkR b 35 (B.rcells v)] w) :
    Fn Try.prog 18 [.pointer (some ⟨b, 0, none⟩), .int .u64 ctr] [blkR b 35 (B.rcells v)] w (fun _ : Unit => True) (fun _ => .int .u64 (B.due ctr)) (fun _ => [blkR b 35 (B.rcells v)]) := by
  have hnn : 0 ≤ wr (ctr - B.fi) * B.s := Int.mul_nonneg (wr_u _).1 (by omega)
  have hs0 : B.s ≠ 0 := by omega
  refine enterF Try.func18 rfl Try.ntmps18 rfl hw ?_
  refine WC.seq ?_
  refine WC.region ?_
  refine WL.y (Yl.assign rfl) rfl ?_ -- t4
  refine WL.nil ?_
  refine WC.seq ?_
  refine WC.drawTail 8 mixed (by kernel_rfl) ?_
  refine WH.y (Yl.move rfl) rfl ?_ -- t7
  refine WH.y (Yl.nilCheck rfl) rfl ?_ -- t8
  refine WH.y (Yl.field fo35_5 rfl) rfl ?_ -- t9
  refine WH.y (Yl.load on22 rfl (by repeat (first | exact Take1.head | apply Take1.tail)) (by rfl)) rfl ?_ -- t10
  refine WH.y (Yl.move rfl) rfl ?_ -- t11
  refine WH.y (Yl.nilCheck rfl) rfl ?_ -- t12
  refine WH.y (Yl.field fo35_0 rfl) rfl ?_ -- t13
  refine WH.y (Yl.load on22 rfl (by repeat (first | exact Take1.head | apply Take1.tail)) (by rfl)) rfl ?_ -- t14
  refine WH.nil ?_
  refine WP.callC (xs := [.tmp 10, .tmp 14]) (cap := []) rfl rfl en48 (by repeat (first | exact TakeL.nil | (apply TakeL.cons; · repeat (first | exact Take1.head | apply Take1.tail)))) (fun w hw => rplus_any B.tm B.d hB.tm hB.d w hw.left.here) rfl ?_ -- t15 hailer/hailerref39.plus
  rintro ⟨⟩ -
  refine WP.y (Yl.assign rfl) rfl ?_ -- t5
  refine WP.nil ?_
  refine WC.seq ?_
  refine WC.region ?_
  refine WL.y (Yl.move rfl) rfl ?_ -- t16
  refine WL.y (Yl.move rfl) rfl ?_ -- t17
  refine WL.y (Yl.nilCheck rfl) rfl ?_ -- t18
  refine WL.y (Yl.field fo35_4 rfl) rfl ?_ -- t19
  refine WL.y (Yl.load on22 rfl (by repeat (first | exact Take1.head | apply Take1.tail)) (by rfl)) rfl ?_ -- t20
  refine WL.y (Yl.sub rfl rfl rfl) rfl ?_ -- t21
  refine WL.say (t := 21) (v' := .int .u64 (wr (ctr - B.fi))) rfl (by rfl) ?_
  refine WL.y (Yl.assign rfl) rfl ?_ -- t6
  refine WL.nil ?_
  refine WC.seq ?_
  refine WC.seq ?_
  refine WC.region ?_
  refine WL.y (Yl.move rfl) rfl ?_ -- t22
  refine WL.y (Yl.move rfl) rfl ?_ -- t23
  refine WL.y (Yl.nilCheck rfl) rfl ?_ -- t24
  refine WL.y (Yl.field fo35_1 rfl) rfl ?_ -- t25
  refine WL.y (Yl.load on22 rfl (by repeat (first | exact Take1.head | apply Take1.tail)) (by rfl)) rfl ?_ -- t26
  refine WL.y (Yl.quo rfl rfl hs0 (u64_quo ⟨by omega, by omega⟩ hs)) rfl ?_
  refine WL.y (Yl.gtr rfl rfl) rfl ?_ -- t28
  refine WL.nil ?_
  refine WC.condD rfl (fun g28 => ?_) (fun g28 => ?_)
  · refine WC.seq ?_
    refine WC.region ?_
    refine WL.y (Yl.assign rfl) rfl ?_ -- t4
    refine WL.nil ?_
    refine WC.ret ?_
    repeat (first | (with_reducible refine peelT ?_) | (with_reducible refine peelB ?_) | (with_reducible refine peelTX ?_) | (with_reducible refine peelBX ?_) | (with_reducible refine peelBN ?_) | (with_reducible refine peelBO rfl ?_))
    have h1 : 18446744073709551616 ≤ wr (ctr - B.fi) * B.s := (quo_top hs).1 g28
    exact ret1 (.inr rfl) Try.results18 rfl fun w' h => ⟨(), trivial, by unfold Jb.due; rw [if_pos h1], h.sub (by repeat (first | exact TakeL.nil | (apply TakeL.cons; · repeat (first | exact Take1.head | apply Take1.tail))))⟩
  · refine WC.skip ?_
    refine WC.seq ?_
    have h1 : ¬ 18446744073709551616 ≤ wr (ctr - B.fi) * B.s := fun h => g28 ((quo_top hs).2 h)
    refine WC.region ?_
    refine WL.y (Yl.move rfl) rfl ?_ -- t29
    refine WL.y (Yl.move rfl) rfl ?_ -- t30
    refine WL.y (Yl.move rfl) rfl ?_ -- t31
    refine WL.y (Yl.nilCheck rfl) rfl ?_ -- t32
    refine WL.y (Yl.field fo35_1 rfl) rfl ?_ -- t33
    refine WL.y (Yl.load on22 rfl (by repeat (first | exact Take1.head | apply Take1.tail)) (by rfl)) rfl ?_ -- t34
    refine WL.y (Yl.mul rfl rfl rfl) rfl ?_ -- t35
    refine WL.say (t := 35) (v' := .int .u64 (wr (ctr - B.fi) * B.s)) rfl (by exact congrArg _ (wr_in ⟨hnn, by omega⟩)) ?_
    refine WL.callC (xs := [.tmp 29, .tmp 35]) (cap := []) rfl rfl en48 (by repeat (first | exact TakeL.nil | (apply TakeL.cons; · repeat (first | exact Take1.head | apply Take1.tail)))) (fun w hw => rplus_any (plF B.tm B.d) (wr (ctr - B.fi) * B.s) (plF_u hB.tm hB.d) ⟨hnn, by omega⟩ w hw.left.here) rfl ?_ -- t36 hailer/hailerref39.plus
    rintro ⟨⟩ -
    refine WL.y (Yl.assign rfl) rfl ?_ -- t4
    refine WL.nil ?_
    refine WC.ret ?_
    repeat (first | (with_reducible refine peelT ?_) | (with_reducible refine peelB ?_) | (with_reducible refine peelTX ?_) | (with_reducible refine peelBX ?_) | (with_reducible refine peelBN ?_) | (with_reducible refine peelBO rfl ?_))
    exact ret1 (.inr rfl) Try.results18 rfl fun w' h => ⟨(), trivial, by unfold Jb.due; rw [if_neg h1], h.sub (by repeat (first | exact TakeL.nil | (apply TakeL.cons; · repeat (first | exact Take1.head | apply Take1.tail))))⟩

/-- The place of a counter. -/
def plI (L : List (Int × Int)) (c : Int) : Int := match L.findIdx? (fun p => decide (p.1 = c)) with
  | none => -1
  | some i => (i : Int)
theorem plI_none {L : List (Int × Int)} {c : Int} (h : ∀ p ∈ L, p.1 ≠ c) : plI L c = -1 := by
  have : L.findIdx? (fun p => decide (p.1 = c)) = none := List.findIdx?_eq_none_iff.2 fun p hp => decide_eq_false (h p hp)
  unfold plI
  rw [this]
theorem plI_some {L : List (Int × Int)} {c : Int} {j : Nat} {p : Int × Int} (hj : L[j]? = some p) (hp : p.1 = c) (h : ∀ (k : Nat) q, k < j → L[k]? = some q → q.1 ≠ c) : plI L c = (j : Int) := by
  obtain ⟨hl, he⟩ := List.getElem?_eq_some_iff.1 hj
  have : L.findIdx? (fun p => decide (p.1 = c)) = some j := List.findIdx?_eq_some_iff_getElem.2 ⟨hl, by simp [he, hp], fun k hk => by
    have := h k _ hk (List.getElem?_eq_getElem (by omega))
    simpa using this⟩
  unfold plI
  rw [this]
theorem plI_cases (L : List (Int × Int)) (c : Int) (hd : mnd L) : (plI L c = -1 ∧ mget L c = none) ∨ ∃ (i : Nat) (p : Int × Int), plI L c = (i : Int) ∧ L[i]? = some p ∧ p.1 = c ∧ mget L c = some p.2 := by
  cases h : L.findIdx? (fun p => decide (p.1 = c)) with
  | none =>
    refine .inl ⟨by unfold plI; rw [h], mget_none.2 fun p hp => ?_⟩
    have := List.findIdx?_eq_none_iff.1 h p hp
    simpa using this
  | some i =>
    obtain ⟨hl, h1, _⟩ := List.findIdx?_eq_some_iff_getElem.1 h
    have hc : (L[i]).1 = c := by simpa using h1
    refine .inr ⟨i, L[i], by unfold plI; rw [h], List.getElem?_eq_getElem hl, hc, (mget_some hd).2 ?_⟩
    rw [← hc]
    exact List.getElem_mem hl
theorem place_any (b : Nat) (ao : Option Addr) (ca : Nat) (B : Jb) (L : List (Int × Int)) (c : Int) (hl : L.length ≤ 1000000) (w : World) (hw : OK w (fpL (rfR b ao ca B L)) (rfR b ao ca B L) w) :
    Fn Try.prog 40 [.pointer (some ⟨b, 0, none⟩), .int .u64 c] (rfR b ao ca B L) w (fun _ : Unit => True) (fun _ => .int .i64 (plI L c)) (fun _ => rfR b ao ca B L) := by
  unfold rfR at hw ⊢
  refine enterF Try.func40 rfl Try.ntmps40 rfl hw ?_
  refine WC.seq ?_
  refine WC.region ?_
  refine WL.y (Yl.assign rfl) rfl ?_ -- t4
  refine WL.nil ?_
  refine WC.seq ?_
  refine WC.seq ?_
  refine WC.region ?_
  refine WL.y (Yl.assign rfl) rfl ?_ -- t5
  refine WL.nil ?_
  refine WC.block ?_
  refine WC.loop (α := Nat) (fun k => [(0, .pointer (some ⟨b, 0, none⟩)), (1, .int .u64 c), (5, .int .i64 (k : Int))]) (fun _ => [blkR b 35 (B.rcells (.slice ao L.length ca)), ownR (.slice ao L.length ca) 46 2 L.length (vcs thV L)]) (fun k => k ≤ L.length ∧ ∀ (i : Nat) q, i < k → L[i]? = some q → q.1 ≠ c) (fun k => L.length - k) 0 ⟨Nat.zero_le _, fun i q h => by omega⟩ ⟨(by repeat (first | exact Sub.nil | refine Sub.cons rfl ?_)), _, (by repeat (first | exact TakeL.nil | (apply TakeL.cons; · repeat (first | exact Take1.head | apply Take1.tail))))⟩ ?_
  rintro j ⟨hj, hno⟩
  refine WC.seq ?_
  refine WC.seq ?_
  refine WC.region ?_
  refine WL.y (Yl.move rfl) rfl ?_ -- t6
  refine WL.y (Yl.move rfl) rfl ?_ -- t7
  refine WL.y (Yl.nilCheck rfl) rfl ?_ -- t8
  refine WL.y (Yl.field fo35_7 rfl) rfl ?_ -- t9
  refine WL.y (Yl.load on32 rfl (by repeat (first | exact Take1.head | apply Take1.tail)) (by rfl)) rfl ?_ -- t10
  refine WL.y (Yl.len un32 rfl) rfl ?_ -- t11
  refine WL.y (Yl.lss rfl rfl) rfl ?_ -- t12
  refine WL.nil ?_
  refine WC.condD rfl (fun g12 => ?_) (fun g12 => ?_)
  · refine WC.skip ?_
    refine WC.seq ?_
    refine WC.block ?_
    refine WC.seq ?_
    refine WC.region ?_
    refine WL.y (Yl.move rfl) rfl ?_ -- t15
    refine WL.y (Yl.nilCheck rfl) rfl ?_ -- t16
    refine WL.y (Yl.field fo35_7 rfl) rfl ?_ -- t17
    refine WL.y (Yl.load on32 rfl (by repeat (first | exact Take1.head | apply Take1.tail)) (by rfl)) rfl ?_ -- t18
    refine WL.y (Yl.move rfl) rfl ?_ -- t19
    have hjl : j < L.length := by omega
    obtain ⟨p, hp⟩ : ∃ p, L[j]? = some p := ⟨_, List.getElem?_eq_getElem hjl⟩
    refine WL.y (Yl.index un32 sz46 rfl rfl (Reads.of (r := ownR (.slice ao L.length ca) 46 2 L.length (vcs thV L)) RdOf.own (by repeat (first | exact Take1.head | apply Take1.tail))) rfl (by omega)) rfl ?_ -- t20
    refine WL.y (Yl.fieldV (v := .slice ao L.length ca) (k := j * 2) fo46_0 rfl (Reads.of (r := ownR (.slice ao L.length ca) 46 2 L.length (vcs thV L)) RdOf.own (by repeat (first | exact Take1.head | apply Take1.tail))) (by rw [th_len]; omega)) rfl ?_
    refine WL.y (Yl.loadO (v := .slice ao L.length ca) (k := j * 2 + 0) on22 rfl (Reads.of (r := ownR (.slice ao L.length ca) 46 2 L.length (vcs thV L)) RdOf.own (by repeat (first | exact Take1.head | apply Take1.tail))) (th_at hp).1) rfl ?_
    refine WL.y (Yl.move rfl) rfl ?_ -- t23
    refine WL.y (Yl.eql rfl rfl) rfl ?_ -- t24
    refine WL.nil ?_
    refine WC.condD rfl (fun g24 => ?_) (fun g24 => ?_)
    · refine WC.seq ?_
      refine WC.region ?_
      refine WL.y (Yl.move rfl) rfl ?_ -- t25
      refine WL.y (Yl.assign rfl) rfl ?_ -- t4
      refine WL.nil ?_
      refine WC.ret ?_
      repeat (first | (with_reducible refine peelT ?_) | (with_reducible refine peelB ?_) | (with_reducible refine peelTX ?_) | (with_reducible refine peelBX ?_) | (with_reducible refine peelBN ?_) | (with_reducible refine peelBO rfl ?_))
      exact ret1 (.inr rfl) Try.results40 rfl fun w' h => ⟨(), trivial, by rw [plI_some hp g24 hno], h.sub (by repeat (first | exact TakeL.nil | (apply TakeL.cons; · repeat (first | exact Take1.head | apply Take1.tail))))⟩
    · refine WC.skip ?_
      refine WC.region ?_
      refine WL.y (Yl.move rfl) rfl ?_ -- t13
      refine WL.y (Yl.add rfl rfl (IntWalk.i64_in _ (by omega))) rfl ?_ -- t14
      refine WL.say (t := 14) (v' := .int .i64 ((j + 1 : Nat) : Int)) rfl (by rfl) ?_
      refine WL.y (Yl.assign rfl) rfl ?_ -- t5
      refine WL.nil ?_
      exact ⟨rfl, j + 1, ⟨by omega, fun i q hi hq => by
        by_cases e : i = j
        · subst e
          rw [hp] at hq
          cases hq
          exact g24
        · exact hno i q (by omega) hq⟩, by omega, (by repeat (first | exact Sub.nil | refine Sub.cons rfl ?_)), _, (by repeat (first | exact TakeL.nil | (apply TakeL.cons; · repeat (first | exact Take1.head | apply Take1.tail))))⟩
  · refine WC.exit ?_
    refine WC.seq ?_
    refine WC.region ?_
    refine WL.y (Yl.assign rfl) rfl ?_ -- t4
    refine WL.nil ?_
    refine WC.ret ?_
    repeat (first | (with_reducible refine peelT ?_) | (with_reducible refine peelB ?_) | (with_reducible refine peelTX ?_) | (with_reducible refine peelBX ?_) | (with_reducible refine peelBN ?_) | (with_reducible refine peelBO rfl ?_))
    have hjl : j = L.length := by omega
    exact ret1 (.inr rfl) Try.results40 rfl fun w' h => ⟨(), trivial, by rw [plI_none (fun p hp => by
      obtain ⟨i, hi⟩ := List.mem_iff_getElem?.1 hp
      exact hno i p (by have := (List.getElem?_eq_some_iff.1 hi).1; omega) hi)], h.sub (by repeat (first | exact TakeL.nil | (apply TakeL.cons; · repeat (first | exact Take1.head | apply Take1.tail))))⟩
end Go.Proofs.Ytklbmgfpnafdlaa

namespace Go.Proofs.Ytklbmgfpnafdlaa
open Go Go.RowKit

theorem rdTh {bv : Nat} {p : Int × Int} : RdOf (blkR bv 46 (thC p)) (.slice (some ⟨bv, 0, none⟩) 1 1) 2 1 (thC p) := RdOf.blk (Nat.le_refl _) (by unfold maxLen; omega) (by simp [thC]) rfl
set_option maxRecDepth 100000 in
theorem rput_any (b : Nat) (ao : Option Addr) (ca : Nat) (B : Jb) (L : List (Int × Int)) (ctr now x : Int) (hB : B.ok) (hS : Same L B.m) (hl : L.length ≤ 1000000) (hc : U6 ctr) (hn : U6 now) (w : World) (hw : OK w (fpL (rfR b ao ca B L)) (rfR b ao ca B L) w) :
    Fn Try.prog 11 [.pointer (some ⟨b, 0, none⟩), .int .u64 ctr, .int .u64 now, .int .u32 x] (rfR b ao ca B L) w (fun y : (Option Addr × Nat) × List (Int × Int) => Same y.2 (B.put ctr now (vW x)).1.m ∧ y.2.length ≤ L.length + 1) (fun _ => .int .i64 (B.put ctr now (vW x)).2) (fun y => rfR b y.1.1 y.1.2 (B.put ctr now (vW x)).1 y.2) := by
  have hf := (hw.get (r := ownR (.slice ao L.length ca) 46 2 L.length (vcs thV L)) (.tail .head) : Sown _ _ _ _ _ _).rd.form
  obtain ⟨_, _, he, hcl, hml⟩ := hf
  cases he
  unfold rfR at hw ⊢
  have hCo := Jb.some1_ok hB hc hn
  have hCm : (B.some1 ctr now).m = B.m := by unfold Jb.some1; split <;> rfl
  unfold Jb.put
  obtain ⟨C, hC⟩ : ∃ C, B.some1 ctr now = C := ⟨_, rfl⟩
  rw [hC] at hCo hCm ⊢
  have hS1 : Same L C.m := by rw [hCm]; exact hS
  refine enterF Try.func11 rfl Try.ntmps11 rfl hw ?_
  refine WC.seq ?_
  refine WC.region ?_
  refine WL.y (Yl.assign rfl) rfl ?_ -- t8
  refine WL.nil ?_
  refine WC.midE (α := Unit) (fun _ => []) (fun _ => [blkR b 35 (C.rcells (.slice ao L.length ca)), ownR (.slice ao L.length ca) 46 2 L.length (vcs thV L)]) (fun _ => True) ?_ ?_
  · refine WC.seq ?_
    refine WC.region ?_
    refine WL.y (Yl.move rfl) rfl ?_ -- t10
    refine WL.y (Yl.nilCheck rfl) rfl ?_ -- t11
    refine WL.y (Yl.field fo35_2 rfl) rfl ?_ -- t12
    refine WL.y (Yl.load on4 rfl (by repeat (first | exact Take1.head | apply Take1.tail)) (by rfl)) rfl ?_ -- t13
    refine WL.y (Yl.not rfl) rfl ?_ -- t14
    refine WL.nil ?_
    refine WC.cond rfl (fun g14 => ?_) (fun g14 => ?_)
    · refine WC.seq ?_
      refine WC.region ?_
      refine WL.y (Yl.move rfl) rfl ?_ -- t15
      refine WL.y (Yl.nilCheck rfl) rfl ?_ -- t16
      refine WL.y (Yl.field fo35_2 rfl) rfl ?_ -- t17
      refine WL.sto (Sto.one sz4 rfl rfl (by repeat (first | exact Take1.head | apply Take1.tail)) rfl (by rfl) (by rfl)) (fun _ h => nomatch h) ?_ -- st 1
      refine WL.nil ?_
      refine WC.seq ?_
      refine WC.region ?_
      refine WL.y (Yl.move rfl) rfl ?_ -- t18
      refine WL.y (Yl.move rfl) rfl ?_ -- t19
      refine WL.y (Yl.nilCheck rfl) rfl ?_ -- t20
      refine WL.y (Yl.field fo35_4 rfl) rfl ?_ -- t21
      refine WL.sto (Sto.one sz22 rfl rfl (by repeat (first | exact Take1.head | apply Take1.tail)) rfl (by rfl) (by rfl)) (fun _ h => nomatch h) ?_ -- st 2
      refine WL.nil ?_
      refine WC.seq ?_
      refine WC.region ?_
      refine WL.y (Yl.move rfl) rfl ?_ -- t22
      refine WL.y (Yl.move rfl) rfl ?_ -- t23
      refine WL.y (Yl.nilCheck rfl) rfl ?_ -- t24
      refine WL.y (Yl.field fo35_6 rfl) rfl ?_ -- t25
      refine WL.sto (Sto.one sz22 rfl rfl (by repeat (first | exact Take1.head | apply Take1.tail)) rfl (by rfl) (by rfl)) (fun _ h => nomatch h) ?_ -- st 3
      refine WL.nil ?_
      refine WC.region ?_
      refine WL.y (Yl.move rfl) rfl ?_ -- t26
      refine WL.y (Yl.move rfl) rfl ?_ -- t27
      refine WL.y (Yl.nilCheck rfl) rfl ?_ -- t28
      refine WL.y (Yl.field fo35_5 rfl) rfl ?_ -- t29
      refine WL.sto (Sto.one sz22 rfl rfl (by repeat (first | exact Take1.head | apply Take1.tail)) rfl (by rfl) (by rfl)) (fun _ h => nomatch h) ?_ -- st 4
      refine WL.nil ?_
      have e : C = { B with so := true, fi := ctr, nx := ctr, tm := now } := by rw [← hC]; exact if_neg (by simpa using g14)
      subst e
      exact ⟨rfl, (), trivial, (by repeat (first | exact Sub.nil | refine Sub.cons rfl ?_)), (by repeat (first | exact Sub.nil | refine Sub.cons rfl ?_)), _, (by repeat (first | exact TakeL.nil | (apply TakeL.cons; · repeat (first | exact Take1.head | apply Take1.tail))))⟩
    · refine WC.skip ?_
      have e : C = B := by rw [← hC]; exact if_pos (by simpa using g14)
      subst e
      exact ⟨rfl, (), trivial, (by repeat (first | exact Sub.nil | refine Sub.cons rfl ?_)), (by repeat (first | exact Sub.nil | refine Sub.cons rfl ?_)), _, (by repeat (first | exact TakeL.nil | (apply TakeL.cons; · repeat (first | exact Take1.head | apply Take1.tail))))⟩
  · rintro ⟨⟩ -
    dsimp only [List.nil_append]
    refine WC.seq ?_
    refine WC.midE (α := Unit) (fun _ => [(41, .bool (C.late ctr))]) (fun _ => [blkR b 35 (C.rcells (.slice ao L.length ca)), ownR (.slice ao L.length ca) 46 2 L.length (vcs thV L)]) (fun _ => True) ?_ ?_
    · refine WC.region ?_
      refine WL.y (Yl.move rfl) rfl ?_ -- t30
      refine WL.y (Yl.nilCheck rfl) rfl ?_ -- t31
      refine WL.y (Yl.field fo35_3 rfl) rfl ?_ -- t32
      refine WL.y (Yl.load on4 rfl (by repeat (first | exact Take1.head | apply Take1.tail)) (by rfl)) rfl ?_ -- t33
      refine WL.y (Yl.move rfl) rfl ?_ -- t34
      refine WL.both (t := 34) rfl (fun g34 => ?_) (fun g34 => ?_)
      · refine WL.off rfl rfl rfl rfl ?_ -- t35
        refine WL.off rfl rfl rfl rfl ?_ -- t36
        refine WL.off rfl rfl rfl rfl ?_ -- t37
        refine WL.off rfl rfl rfl rfl ?_ -- t38
        refine WL.off rfl rfl rfl rfl ?_ -- t39
        refine WL.off rfl rfl rfl rfl ?_ -- t40
        refine WL.y (Yl.pickT rfl rfl) rfl ?_ -- t41
        refine WL.say (t := 41) (v' := .bool (C.late ctr)) rfl (by (unfold Jb.late; rw [g34]; rfl)) ?_
        refine WL.nil ?_
        exact ⟨rfl, (), trivial, (by repeat (first | exact Sub.nil | refine Sub.cons rfl ?_)), (by repeat (first | exact Sub.nil | refine Sub.cons rfl ?_)), _, (by repeat (first | exact TakeL.nil | (apply TakeL.cons; · repeat (first | exact Take1.head | apply Take1.tail))))⟩
      · refine WL.on rfl rfl ?_
        refine WL.y (Yl.move rfl) rfl ?_ -- t35
        refine WL.on rfl rfl ?_
        refine WL.y (Yl.move rfl) rfl ?_ -- t36
        refine WL.on rfl rfl ?_
        refine WL.y (Yl.nilCheck rfl) rfl ?_ -- t37
        refine WL.on rfl rfl ?_
        refine WL.y (Yl.field fo35_6 rfl) rfl ?_ -- t38
        refine WL.on rfl rfl ?_
        refine WL.y (Yl.load on22 rfl (by repeat (first | exact Take1.head | apply Take1.tail)) (by rfl)) rfl ?_ -- t39
        refine WL.on rfl rfl ?_
        refine WL.y (Yl.lss rfl rfl) rfl ?_ -- t40
        refine WL.y (Yl.pickF rfl rfl) rfl ?_ -- t41
        refine WL.say (t := 41) (v' := .bool (C.late ctr)) rfl (by (unfold Jb.late; rw [g34]; rfl)) ?_
        refine WL.nil ?_
        exact ⟨rfl, (), trivial, (by repeat (first | exact Sub.nil | refine Sub.cons rfl ?_)), (by repeat (first | exact Sub.nil | refine Sub.cons rfl ?_)), _, (by repeat (first | exact TakeL.nil | (apply TakeL.cons; · repeat (first | exact Take1.head | apply Take1.tail))))⟩
    · rintro ⟨⟩ -
      dsimp only [List.cons_append, List.nil_append]
      refine WC.cond rfl (fun g41 => ?_) (fun g41 => ?_)
      · refine WC.seq ?_
        refine WC.drawTail 9 mixed (by kernel_rfl) ?_
        refine WH.y (Yl.move rfl) rfl ?_ -- t42
        refine WH.y (Yl.nilCheck rfl) rfl ?_ -- t43
        refine WH.y (Yl.field fo35_8 rfl) rfl ?_ -- t44
        refine WH.y (Yl.indexA (j := 3) un33 sz22 rfl rfl rfl (by omega)) rfl ?_ -- t45
        refine WH.y (Yl.load on22 rfl (by repeat (first | exact Take1.head | apply Take1.tail)) (by rfl)) rfl ?_ -- t46
        refine WH.y (Yl.add rfl rfl rfl) rfl ?_ -- t47
        refine WH.y (Yl.nilCheck rfl) rfl ?_ -- t48
        refine WH.y (Yl.field fo35_8 rfl) rfl ?_ -- t49
        refine WH.y (Yl.indexA (j := 3) un33 sz22 rfl rfl rfl (by omega)) rfl ?_ -- t50
        refine WH.nil ?_
        refine WP.sto (Sto.one sz22 rfl rfl (by repeat (first | exact Take1.head | apply Take1.tail)) rfl (by rfl) (by rfl)) (fun _ h => nomatch h) ?_ -- st 5
        refine WP.nil ?_
        refine WC.seq ?_
        refine WC.region ?_
        refine WL.y (Yl.assign rfl) rfl ?_ -- t8
        refine WL.nil ?_
        refine WC.ret ?_
        repeat (first | (with_reducible refine peelT ?_) | (with_reducible refine peelB ?_) | (with_reducible refine peelTX ?_) | (with_reducible refine peelBX ?_) | (with_reducible refine peelBN ?_) | (with_reducible refine peelBO rfl ?_))
        have e : C.put0 ctr (vW x) = ({ C with t := wr (C.t + 1) }, 161) := by unfold Jb.put0; rw [if_pos g41]
        rw [e]
        exact ret1 (.inr rfl) Try.results11 rfl fun w' h => ⟨((ao, ca), L), ⟨hS1, Nat.le_succ _⟩, rfl, h.sub (by repeat (first | exact TakeL.nil | (apply TakeL.cons; · repeat (first | exact Take1.head | apply Take1.tail))))⟩
      · refine WC.skip ?_
        refine WC.seq ?_
        refine WC.seq ?_
        refine WC.region ?_
        refine WL.y (Yl.move rfl) rfl ?_ -- t51
        refine WL.y (Yl.move rfl) rfl ?_ -- t52
        refine WL.callC (xs := [.tmp 51, .tmp 52]) (cap := []) rfl rfl en40 (by repeat (first | exact TakeL.nil | (apply TakeL.cons; · repeat (first | exact Take1.head | apply Take1.tail)))) (fun w hw => place_any b ao ca C L ctr hl w hw.left.here) rfl ?_ -- t53 (*hailer/hailerref39.Buffer).place
        rintro ⟨⟩ -
        dsimp only [rfR, List.cons_append, List.nil_append]
        refine WL.y (Yl.geq rfl rfl) rfl ?_ -- t54
        refine WL.nil ?_
        refine WC.condD rfl (fun g54 => ?_) (fun g54 => ?_)
        · refine WC.seq ?_
          refine WC.drawTail 9 mixed (by kernel_rfl) ?_
          refine WH.y (Yl.move rfl) rfl ?_ -- t55
          refine WH.y (Yl.nilCheck rfl) rfl ?_ -- t56
          refine WH.y (Yl.field fo35_8 rfl) rfl ?_ -- t57
          refine WH.y (Yl.indexA (j := 4) un33 sz22 rfl rfl rfl (by omega)) rfl ?_ -- t58
          refine WH.y (Yl.load on22 rfl (by repeat (first | exact Take1.head | apply Take1.tail)) (by rfl)) rfl ?_ -- t59
          refine WH.y (Yl.add rfl rfl rfl) rfl ?_ -- t60
          refine WH.y (Yl.nilCheck rfl) rfl ?_ -- t61
          refine WH.y (Yl.field fo35_8 rfl) rfl ?_ -- t62
          refine WH.y (Yl.indexA (j := 4) un33 sz22 rfl rfl rfl (by omega)) rfl ?_ -- t63
          refine WH.nil ?_
          refine WP.sto (Sto.one sz22 rfl rfl (by repeat (first | exact Take1.head | apply Take1.tail)) rfl (by rfl) (by rfl)) (fun _ h => nomatch h) ?_ -- st 6
          refine WP.nil ?_
          refine WC.seq ?_
          refine WC.region ?_
          refine WL.y (Yl.assign rfl) rfl ?_ -- t8
          refine WL.nil ?_
          refine WC.ret ?_
          repeat (first | (with_reducible refine peelT ?_) | (with_reducible refine peelB ?_) | (with_reducible refine peelTX ?_) | (with_reducible refine peelBX ?_) | (with_reducible refine peelBN ?_) | (with_reducible refine peelBO rfl ?_))
          have hk : (mget C.m ctr).isSome = true := by
            rw [hS1.get]
            rcases plI_cases L ctr hS1.nd with ⟨h1, _⟩ | ⟨i, p, h1, h2, h3, h4⟩
            · omega
            · rw [h4]; rfl
          have e : C.put0 ctr (vW x) = ({ C with e := wr (C.e + 1) }, 160) := by unfold Jb.put0; rw [if_neg (ne_true_of_eq_false g41), if_pos hk]
          rw [e]
          exact ret1 (.inr rfl) Try.results11 rfl fun w' h => ⟨((ao, ca), L), ⟨hS1, Nat.le_succ _⟩, rfl, h.sub (by repeat (first | exact TakeL.nil | (apply TakeL.cons; · repeat (first | exact Take1.head | apply Take1.tail))))⟩
        · refine WC.skip ?_
          refine WC.seq ?_
          refine WC.seq ?_
          have hk : mget C.m ctr = none := by
            rw [hS1.get]
            rcases plI_cases L ctr hS1.nd with ⟨_, h1⟩ | ⟨i, p, h1, h2, h3, h4⟩
            · rw [h1]; rfl
            · omega
          refine WC.region ?_
          refine WL.y (Yl.move rfl) rfl ?_ -- t64
          refine WL.y (Yl.move rfl) rfl ?_ -- t65
          refine WL.y (Yl.nilCheck rfl) rfl ?_ -- t66
          refine WL.y (Yl.field fo35_6 rfl) rfl ?_ -- t67
          refine WL.y (Yl.load on22 rfl (by repeat (first | exact Take1.head | apply Take1.tail)) (by rfl)) rfl ?_ -- t68
          refine WL.y (Yl.sub rfl rfl rfl) rfl ?_ -- t69
          refine WL.say (t := 69) (v' := .int .u64 (wr (ctr - C.nx))) rfl (by rfl) ?_
          refine WL.y (Yl.gtr rfl rfl) rfl ?_ -- t70
          refine WL.nil ?_
          refine WC.condD rfl (fun g70 => ?_) (fun g70 => ?_)
          · refine WC.seq ?_
            refine WC.drawTail 9 mixed (by kernel_rfl) ?_
            refine WH.y (Yl.move rfl) rfl ?_ -- t71
            refine WH.y (Yl.nilCheck rfl) rfl ?_ -- t72
            refine WH.y (Yl.field fo35_8 rfl) rfl ?_ -- t73
            refine WH.y (Yl.indexA (j := 5) un33 sz22 rfl rfl rfl (by omega)) rfl ?_ -- t74
            refine WH.y (Yl.load on22 rfl (by repeat (first | exact Take1.head | apply Take1.tail)) (by rfl)) rfl ?_ -- t75
            refine WH.y (Yl.add rfl rfl rfl) rfl ?_ -- t76
            refine WH.y (Yl.nilCheck rfl) rfl ?_ -- t77
            refine WH.y (Yl.field fo35_8 rfl) rfl ?_ -- t78
            refine WH.y (Yl.indexA (j := 5) un33 sz22 rfl rfl rfl (by omega)) rfl ?_ -- t79
            refine WH.nil ?_
            refine WP.sto (Sto.one sz22 rfl rfl (by repeat (first | exact Take1.head | apply Take1.tail)) rfl (by rfl) (by rfl)) (fun _ h => nomatch h) ?_ -- st 7
            refine WP.nil ?_
            refine WC.seq ?_
            refine WC.region ?_
            refine WL.y (Yl.assign rfl) rfl ?_ -- t8
            refine WL.nil ?_
            refine WC.ret ?_
            repeat (first | (with_reducible refine peelT ?_) | (with_reducible refine peelB ?_) | (with_reducible refine peelTX ?_) | (with_reducible refine peelBX ?_) | (with_reducible refine peelBN ?_) | (with_reducible refine peelBO rfl ?_))
            have e : C.put0 ctr (vW x) = ({ C with f := wr (C.f + 1) }, 7) := by unfold Jb.put0; rw [if_neg (ne_true_of_eq_false g41), hk, if_neg (by decide), if_pos g70]
            rw [e]
            exact ret1 (.inr rfl) Try.results11 rfl fun w' h => ⟨((ao, ca), L), ⟨hS1, Nat.le_succ _⟩, rfl, h.sub (by repeat (first | exact TakeL.nil | (apply TakeL.cons; · repeat (first | exact Take1.head | apply Take1.tail))))⟩
          · refine WC.skip ?_
            refine WC.seq ?_
            refine WC.region ?_
            refine WL.y (Yl.assign rfl) rfl ?_ -- t9
            refine WL.nil ?_
            refine WC.midX (α := Nat) (fun a => [(0, .pointer (some ⟨b, 0, none⟩)), (1, .int .u64 ctr), (3, .int .u32 x), (9, .int .i64 (a : Int))]) (fun _ => [blkR b 35 (C.rcells (.slice ao L.length ca)), ownR (.slice ao L.length ca) 46 2 L.length (vcs thV L)]) (fun a => a ≤ L.length ∧ (∀ (j : Nat) p, j < a → L[j]? = some p → p.1 < ctr) ∧ ∀ p, L[a]? = some p → ¬ p.1 < ctr) ?_ ?_
            · refine WC.block ?_
              refine WC.loop (α := Nat) (fun a => [(0, .pointer (some ⟨b, 0, none⟩)), (1, .int .u64 ctr), (3, .int .u32 x), (9, .int .i64 (a : Int))]) (fun _ => [blkR b 35 (C.rcells (.slice ao L.length ca)), ownR (.slice ao L.length ca) 46 2 L.length (vcs thV L)]) (fun a => a ≤ L.length ∧ ∀ (j : Nat) p, j < a → L[j]? = some p → p.1 < ctr) (fun a => L.length - a) 0 ⟨Nat.zero_le _, fun j p h => by omega⟩ ⟨(by repeat (first | exact Sub.nil | refine Sub.cons rfl ?_)), _, (by repeat (first | exact TakeL.nil | (apply TakeL.cons; · repeat (first | exact Take1.head | apply Take1.tail))))⟩ ?_
              rintro a ⟨ha, hlo⟩
              refine WC.seq ?_
              refine WC.seq ?_
              refine WC.region ?_
              refine WL.y (Yl.move rfl) rfl ?_ -- t80
              refine WL.y (Yl.move rfl) rfl ?_ -- t81
              refine WL.y (Yl.nilCheck rfl) rfl ?_ -- t82
              refine WL.y (Yl.field fo35_7 rfl) rfl ?_ -- t83
              refine WL.y (Yl.load on32 rfl (by repeat (first | exact Take1.head | apply Take1.tail)) (by rfl)) rfl ?_ -- t84
              refine WL.y (Yl.len un32 rfl) rfl ?_ -- t85
              refine WL.y (Yl.lss rfl rfl) rfl ?_ -- t86
              refine WL.y (Yl.move rfl) rfl ?_ -- t87
              refine WL.both (t := 87) rfl (fun g87 => ?_) (fun g87 => ?_)
              · refine WL.on rfl rfl ?_
                refine WL.y (Yl.move rfl) rfl ?_ -- t88
                refine WL.on rfl rfl ?_
                refine WL.y (Yl.nilCheck rfl) rfl ?_ -- t89
                refine WL.on rfl rfl ?_
                refine WL.y (Yl.field fo35_7 rfl) rfl ?_ -- t90
                refine WL.on rfl rfl ?_
                refine WL.y (Yl.load on32 rfl (by repeat (first | exact Take1.head | apply Take1.tail)) (by rfl)) rfl ?_ -- t91
                refine WL.on rfl rfl ?_
                refine WL.y (Yl.move rfl) rfl ?_ -- t92
                refine WL.on rfl rfl ?_
                have hal : a < L.length := by simpa using g87
                obtain ⟨p, hp⟩ : ∃ p, L[a]? = some p := ⟨_, List.getElem?_eq_getElem hal⟩
                refine WL.y (Yl.index un32 sz46 rfl rfl (Reads.of (r := ownR (.slice ao L.length ca) 46 2 L.length (vcs thV L)) RdOf.own (by repeat (first | exact Take1.head | apply Take1.tail))) rfl (by omega)) rfl ?_ -- t93
                refine WL.on rfl rfl ?_
                refine WL.y (Yl.fieldV (v := .slice ao L.length ca) (k := a * 2) fo46_0 rfl (Reads.of (r := ownR (.slice ao L.length ca) 46 2 L.length (vcs thV L)) RdOf.own (by repeat (first | exact Take1.head | apply Take1.tail))) (by rw [th_len]; omega)) rfl ?_
                refine WL.on rfl rfl ?_
                refine WL.y (Yl.loadO (v := .slice ao L.length ca) (k := a * 2 + 0) on22 rfl (Reads.of (r := ownR (.slice ao L.length ca) 46 2 L.length (vcs thV L)) RdOf.own (by repeat (first | exact Take1.head | apply Take1.tail))) (th_at hp).1) rfl ?_
                refine WL.on rfl rfl ?_
                refine WL.y (Yl.move rfl) rfl ?_ -- t96
                refine WL.on rfl rfl ?_
                refine WL.y (Yl.lss rfl rfl) rfl ?_ -- t97
                refine WL.y (Yl.pickT rfl rfl) rfl ?_ -- t98
                refine WL.nil ?_
                refine WC.condD rfl (fun g98 => ?_) (fun g98 => ?_)
                · refine WC.skip ?_
                  refine WC.block ?_
                  refine WC.region ?_
                  refine WL.y (Yl.move rfl) rfl ?_ -- t99
                  refine WL.y (Yl.add rfl rfl (IntWalk.i64_in _ (by omega))) rfl ?_ -- t100
                  refine WL.say (t := 100) (v' := .int .i64 ((a + 1 : Nat) : Int)) rfl (by rfl) ?_
                  refine WL.y (Yl.assign rfl) rfl ?_ -- t9
                  refine WL.nil ?_
                  exact ⟨rfl, a + 1, ⟨by omega, fun j q h1 h2 => by
                    by_cases e : j = a
                    · subst e
                      rw [hp] at h2
                      cases h2
                      exact g98
                    · exact hlo j q (by omega) h2⟩, by omega, (by repeat (first | exact Sub.nil | refine Sub.cons rfl ?_)), _, (by repeat (first | exact TakeL.nil | (apply TakeL.cons; · repeat (first | exact Take1.head | apply Take1.tail))))⟩
                · refine WC.exit ?_
                  exact ⟨rfl, a, ⟨ha, hlo, fun q hq => by rw [hp] at hq; cases hq; exact g98⟩, (by repeat (first | exact Sub.nil | refine Sub.cons rfl ?_)), _, (by repeat (first | exact TakeL.nil | (apply TakeL.cons; · repeat (first | exact Take1.head | apply Take1.tail))))⟩
              · refine WL.off rfl rfl rfl rfl ?_ -- t88
                refine WL.off rfl rfl rfl rfl ?_ -- t89
                refine WL.off rfl rfl rfl rfl ?_ -- t90
                refine WL.off rfl rfl rfl rfl ?_ -- t91
                refine WL.off rfl rfl rfl rfl ?_ -- t92
                refine WL.off rfl rfl rfl rfl ?_ -- t93
                refine WL.off rfl rfl rfl rfl ?_ -- t94
                refine WL.off rfl rfl rfl rfl ?_ -- t95
                refine WL.off rfl rfl rfl rfl ?_ -- t96
                refine WL.off rfl rfl rfl rfl ?_ -- t97
                refine WL.y (Yl.pickF rfl rfl) rfl ?_ -- t98
                refine WL.nil ?_
                refine WC.condF rfl (by first | rfl | (simp; done) | (simp; omega)) ?_
                refine WC.exit ?_
                have hal : a = L.length := by
                  have : ¬ a < L.length := by simpa using g87
                  omega
                exact ⟨rfl, a, ⟨ha, hlo, fun q hq => by
                  have := (List.getElem?_eq_some_iff.1 hq).1
                  omega⟩, (by repeat (first | exact Sub.nil | refine Sub.cons rfl ?_)), _, (by repeat (first | exact TakeL.nil | (apply TakeL.cons; · repeat (first | exact Take1.head | apply Take1.tail))))⟩
            · rintro a ⟨ha, hlo, hhi⟩
              refine WC.seq ?_
              refine WC.drawLast 23 (Hs := [blkR b 35 (C.rcells (.slice ao L.length ca)), ownR (.slice ao L.length ca) 46 2 L.length (vcs thV L)]) rfl rfl mixed (by kernel_rfl) ⟨_, (by repeat (first | exact TakeL.nil | (apply TakeL.cons; · repeat (first | exact Take1.head | apply Take1.tail))))⟩ ?_
              dsimp only [List.dropLast]
              refine WD.take 0 rfl (by kernel_rfl) (by kernel_rfl) (by kernel_rfl) rfl rfl (Yl.move rfl) rfl ?_ -- t101
              refine WD.take 2 rfl (by kernel_rfl) (by kernel_rfl) (by kernel_rfl) rfl rfl (Yl.move rfl) rfl ?_ -- t103
              refine WD.take 3 rfl (by kernel_rfl) (by kernel_rfl) (by kernel_rfl) rfl rfl (Yl.nilCheck rfl) rfl ?_ -- t104
              refine WD.take 4 rfl (by kernel_rfl) (by kernel_rfl) (by kernel_rfl) rfl rfl (Yl.field fo35_7 rfl) rfl ?_ -- t105
              refine WD.take 5 rfl (by kernel_rfl) (by kernel_rfl) (by kernel_rfl) rfl rfl (Yl.load on32 rfl (by repeat (first | exact Take1.head | apply Take1.tail)) (by rfl)) rfl ?_ -- t106
              refine WD.take 6 rfl (by kernel_rfl) (by kernel_rfl) (by kernel_rfl) rfl rfl (Yl.move rfl) rfl ?_ -- t107
              refine WD.take 7 rfl (by kernel_rfl) (by kernel_rfl) (by kernel_rfl) rfl rfl (Yl.slice un32 sz46 rfl rfl ⟨_, rfl⟩ (by omega) (by omega)) rfl ?_ -- t108
              refine WD.take 9 rfl (by kernel_rfl) (by kernel_rfl) (by kernel_rfl) rfl rfl (Yl.move rfl) rfl ?_ -- t110
              refine WD.take 10 rfl (by kernel_rfl) (by kernel_rfl) (by kernel_rfl) rfl rfl (Yl.move rfl) rfl ?_ -- t111
              refine WD.take 11 rfl (by kernel_rfl) (by kernel_rfl) (by kernel_rfl) rfl rfl (Yl.build rfl (cs := thC (ctr, x)) (fun _ => by kernel_rfl)) rfl ?_ -- t112
              refine WD.take 14 rfl (by kernel_rfl) (by kernel_rfl) (by kernel_rfl) rfl rfl (Yl.move rfl) rfl ?_ -- t115
              refine WD.take 15 rfl (by kernel_rfl) (by kernel_rfl) (by kernel_rfl) rfl rfl (Yl.nilCheck rfl) rfl ?_ -- t116
              refine WD.take 16 rfl (by kernel_rfl) (by kernel_rfl) (by kernel_rfl) rfl rfl (Yl.field fo35_7 rfl) rfl ?_ -- t117
              refine WD.take 17 rfl (by kernel_rfl) (by kernel_rfl) (by kernel_rfl) rfl rfl (Yl.load on32 rfl (by repeat (first | exact Take1.head | apply Take1.tail)) (by rfl)) rfl ?_ -- t118
              refine WD.take 18 rfl (by kernel_rfl) (by kernel_rfl) (by kernel_rfl) rfl rfl (Yl.move rfl) rfl ?_ -- t119
              refine WD.take 19 rfl (by kernel_rfl) (by kernel_rfl) (by kernel_rfl) rfl rfl (Yl.slice un32 sz46 rfl ⟨_, rfl⟩ rfl (by omega) (by omega)) rfl ?_ -- t120
              refine WD.two 1 12 (by kernel_rfl) ?_ ?_
              · refine WO.to rfl rfl .no (To.buildSlice (vs := []) un32 zs46 rfl rfl (by simp [Value.cells]) (by decide) (by decide)) rfl (fun _ => ⟨_, (by repeat (first | exact TakeL.nil | (apply TakeL.cons; · repeat (first | exact Take1.head | apply Take1.tail))))⟩) ?_ -- t102
                intro b102
                rw [show flat [] = [] from rfl]
                refine WD.view (fun w h => h.blkOwn (b := b102) (size := 2) (n := 0) (by repeat (first | exact Take1.head | apply Take1.tail)) (by unfold maxLen; omega) rfl) ?_
                refine WD.two 8 12 (by kernel_rfl) ?_ ?_
                · refine WO.to rfl rfl .no (To.append sl32 rfl rfl (by repeat (first | exact Take1.head | apply Take1.tail)) (Reads.of (RdOf.sub (r := ownR (.slice ao L.length ca) 46 2 L.length (vcs thV L)) RdOf.own (Nat.zero_le _) ha (cs' := vcs thV (L.take a)) (by rw [Nat.zero_mul, List.drop_zero, Nat.sub_zero, th_take])) (by repeat (first | exact Take1.head | apply Take1.tail))) (vtT.ones _) (by rw [Nat.sub_zero, Nat.zero_add]) (List.nil_append _) (by unfold maxLen; omega) (by omega)) rfl (fun _ => ⟨_, (by repeat (first | exact TakeL.nil | (apply TakeL.cons; · repeat (first | exact Take1.head | apply Take1.tail))))⟩) ?_ -- t109
                  rintro ⟨⟨ao109, c109⟩, hc109⟩
                  dsimp only at hc109 ⊢
                  refine WD.one 12 (by kernel_rfl) ?_
                  refine WO.to rfl rfl .no (To.buildSlice (vs := [.agg (thC (ctr, x)).toArray]) un32 zs46 rfl rfl (by simp [Value.cells, thC]) (by decide) (by decide)) rfl (fun _ => ⟨_, (by repeat (first | exact TakeL.nil | (apply TakeL.cons; · repeat (first | exact Take1.head | apply Take1.tail))))⟩) ?_ -- t113
                  intro b113
                  refine WD.one 13 (by kernel_rfl) ?_
                  refine WO.to rfl rfl .no (To.append sl32 rfl rfl (by repeat (first | exact Take1.head | apply Take1.tail)) (Reads.of (r := blkR b113 46 (thC (ctr, x))) rdTh (by repeat (first | exact Take1.head | apply Take1.tail))) (thOnes (ctr, x)) rfl (show vcs thV (L.take a) ++ thC (ctr, x) = vcs thV (L.take a ++ [(ctr, x)]) by rw [vcs_app, vcs_one]; rfl) (by unfold maxLen; omega) (by omega)) rfl (fun _ => ⟨_, (by repeat (first | exact TakeL.nil | (apply TakeL.cons; · repeat (first | exact Take1.head | apply Take1.tail))))⟩) ?_ -- t114
                  rintro ⟨⟨ao114, c114⟩, hc114⟩
                  dsimp only at hc114 ⊢
                  refine WD.one 20 (by kernel_rfl) ?_
                  refine WO.to rfl rfl .no (To.append sl32 rfl rfl (by repeat (first | exact Take1.head | apply Take1.tail)) (Reads.of (RdOf.sub (r := ownR (.slice ao L.length ca) 46 2 L.length (vcs thV L)) RdOf.own ha (Nat.le_refl _) (cs' := vcs thV (L.drop a)) (by rw [th_drop, List.take_of_length_le (by rw [th_len, List.length_drop]; exact Nat.le_refl _)])) (by repeat (first | exact Take1.head | apply Take1.tail))) (vtT.ones _) (show a + 1 + (L.length - a) = L.length + 1 by omega) (show vcs thV (L.take a ++ [(ctr, x)]) ++ vcs thV (L.drop a) = vcs thV (L.take a ++ (ctr, x) :: L.drop a) by rw [← vcs_app, List.append_assoc]; rfl) (by unfold maxLen; omega) (by omega)) rfl (fun _ => ⟨_, (by repeat (first | exact TakeL.nil | (apply TakeL.cons; · repeat (first | exact Take1.head | apply Take1.tail))))⟩) ?_ -- t121
                  rintro ⟨⟨ao121, c121⟩, hc121⟩
                  dsimp only at hc121 ⊢
                  refine WD.take 21 rfl (by kernel_rfl) (by kernel_rfl) (by kernel_rfl) rfl rfl (Yl.nilCheck rfl) rfl ?_ -- t122
                  refine WD.take 22 rfl (by kernel_rfl) (by kernel_rfl) (by kernel_rfl) rfl rfl (Yl.field fo35_7 rfl) rfl ?_ -- t123
                  refine WD.done (by kernel_rfl) ?_
                  refine ⟨_, (Sto.one sz32 rfl rfl (by repeat (first | exact Take1.head | apply Take1.tail)) rfl (by rfl) (by rfl)), ?_⟩ -- st 8
                  refine WC.seq ?_
                  refine WC.drawTail 9 mixed (by kernel_rfl) ?_
                  refine WH.y (Yl.move rfl) rfl ?_ -- t124
                  refine WH.y (Yl.nilCheck rfl) rfl ?_ -- t125
                  refine WH.y (Yl.field fo35_8 rfl) rfl ?_ -- t126
                  refine WH.y (Yl.indexA (j := 0) un33 sz22 rfl rfl rfl (by omega)) rfl ?_ -- t127
                  refine WH.y (Yl.load on22 rfl (by repeat (first | exact Take1.head | apply Take1.tail)) (by rfl)) rfl ?_ -- t128
                  refine WH.y (Yl.add rfl rfl rfl) rfl ?_ -- t129
                  refine WH.y (Yl.nilCheck rfl) rfl ?_ -- t130
                  refine WH.y (Yl.field fo35_8 rfl) rfl ?_ -- t131
                  refine WH.y (Yl.indexA (j := 0) un33 sz22 rfl rfl rfl (by omega)) rfl ?_ -- t132
                  refine WH.nil ?_
                  refine WP.sto (Sto.one sz22 rfl rfl (by repeat (first | exact Take1.head | apply Take1.tail)) rfl (by rfl) (by rfl)) (fun _ h => nomatch h) ?_ -- st 9
                  refine WP.nil ?_
                  refine WC.seq ?_
                  refine WC.region ?_
                  refine WL.y (Yl.assign rfl) rfl ?_ -- t8
                  refine WL.nil ?_
                  refine WC.ret ?_
                  repeat (first | (with_reducible refine peelT ?_) | (with_reducible refine peelB ?_) | (with_reducible refine peelTX ?_) | (with_reducible refine peelBX ?_) | (with_reducible refine peelBN ?_) | (with_reducible refine peelBO rfl ?_))
                  have h70 : ¬ 512 < wr (ctr - C.nx) := g70
                  have e : C.put0 ctr (vW x) = ({ C with m := mput C.m ctr (vW x), k := wr (C.k + 1) }, 0) := by unfold Jb.put0; rw [if_neg (ne_true_of_eq_false g41), hk, if_neg (by decide), if_neg h70]
                  rw [e]
                  have hL : (L.take a ++ (ctr, x) :: L.drop a).length = L.length + 1 := by rw [List.length_append, List.length_take, List.length_cons, List.length_drop]; omega
                  exact ret1 (.inr rfl) Try.results11 rfl fun w' h => ⟨((ao121, c121), L.take a ++ (ctr, x) :: L.drop a), ⟨same_ins hS1 hlo hhi hk, by rw [hL]; exact Nat.le_refl _⟩, rfl, by dsimp only; rw [hL]; exact h.sub (by repeat (first | exact TakeL.nil | (apply TakeL.cons; · repeat (first | exact Take1.head | apply Take1.tail))))⟩
                · refine WO.to rfl rfl .no (To.buildSlice (vs := [.agg (thC (ctr, x)).toArray]) un32 zs46 rfl rfl (by simp [Value.cells, thC]) (by decide) (by decide)) rfl (fun _ => ⟨_, (by repeat (first | exact TakeL.nil | (apply TakeL.cons; · repeat (first | exact Take1.head | apply Take1.tail))))⟩) ?_ -- t113
                  intro b113
                  refine WD.one 8 (by kernel_rfl) ?_
                  refine WO.to rfl rfl .no (To.append sl32 rfl rfl (by repeat (first | exact Take1.head | apply Take1.tail)) (Reads.of (RdOf.sub (r := ownR (.slice ao L.length ca) 46 2 L.length (vcs thV L)) RdOf.own (Nat.zero_le _) ha (cs' := vcs thV (L.take a)) (by rw [Nat.zero_mul, List.drop_zero, Nat.sub_zero, th_take])) (by repeat (first | exact Take1.head | apply Take1.tail))) (vtT.ones _) (by rw [Nat.sub_zero, Nat.zero_add]) (List.nil_append _) (by unfold maxLen; omega) (by omega)) rfl (fun _ => ⟨_, (by repeat (first | exact TakeL.nil | (apply TakeL.cons; · repeat (first | exact Take1.head | apply Take1.tail))))⟩) ?_ -- t109
                  rintro ⟨⟨ao109, c109⟩, hc109⟩
                  dsimp only at hc109 ⊢
                  refine WD.one 13 (by kernel_rfl) ?_
                  refine WO.to rfl rfl .no (To.append sl32 rfl rfl (by repeat (first | exact Take1.head | apply Take1.tail)) (Reads.of (r := blkR b113 46 (thC (ctr, x))) rdTh (by repeat (first | exact Take1.head | apply Take1.tail))) (thOnes (ctr, x)) rfl (show vcs thV (L.take a) ++ thC (ctr, x) = vcs thV (L.take a ++ [(ctr, x)]) by rw [vcs_app, vcs_one]; rfl) (by unfold maxLen; omega) (by omega)) rfl (fun _ => ⟨_, (by repeat (first | exact TakeL.nil | (apply TakeL.cons; · repeat (first | exact Take1.head | apply Take1.tail))))⟩) ?_ -- t114
                  rintro ⟨⟨ao114, c114⟩, hc114⟩
                  dsimp only at hc114 ⊢
                  refine WD.one 20 (by kernel_rfl) ?_
                  refine WO.to rfl rfl .no (To.append sl32 rfl rfl (by repeat (first | exact Take1.head | apply Take1.tail)) (Reads.of (RdOf.sub (r := ownR (.slice ao L.length ca) 46 2 L.length (vcs thV L)) RdOf.own ha (Nat.le_refl _) (cs' := vcs thV (L.drop a)) (by rw [th_drop, List.take_of_length_le (by rw [th_len, List.length_drop]; exact Nat.le_refl _)])) (by repeat (first | exact Take1.head | apply Take1.tail))) (vtT.ones _) (show a + 1 + (L.length - a) = L.length + 1 by omega) (show vcs thV (L.take a ++ [(ctr, x)]) ++ vcs thV (L.drop a) = vcs thV (L.take a ++ (ctr, x) :: L.drop a) by rw [← vcs_app, List.append_assoc]; rfl) (by unfold maxLen; omega) (by omega)) rfl (fun _ => ⟨_, (by repeat (first | exact TakeL.nil | (apply TakeL.cons; · repeat (first | exact Take1.head | apply Take1.tail))))⟩) ?_ -- t121
                  rintro ⟨⟨ao121, c121⟩, hc121⟩
                  dsimp only at hc121 ⊢
                  refine WD.take 21 rfl (by kernel_rfl) (by kernel_rfl) (by kernel_rfl) rfl rfl (Yl.nilCheck rfl) rfl ?_ -- t122
                  refine WD.take 22 rfl (by kernel_rfl) (by kernel_rfl) (by kernel_rfl) rfl rfl (Yl.field fo35_7 rfl) rfl ?_ -- t123
                  refine WD.done (by kernel_rfl) ?_
                  refine ⟨_, (Sto.one sz32 rfl rfl (by repeat (first | exact Take1.head | apply Take1.tail)) rfl (by rfl) (by rfl)), ?_⟩ -- st 8
                  refine WC.seq ?_
                  refine WC.drawTail 9 mixed (by kernel_rfl) ?_
                  refine WH.y (Yl.move rfl) rfl ?_ -- t124
                  refine WH.y (Yl.nilCheck rfl) rfl ?_ -- t125
                  refine WH.y (Yl.field fo35_8 rfl) rfl ?_ -- t126
                  refine WH.y (Yl.indexA (j := 0) un33 sz22 rfl rfl rfl (by omega)) rfl ?_ -- t127
                  refine WH.y (Yl.load on22 rfl (by repeat (first | exact Take1.head | apply Take1.tail)) (by rfl)) rfl ?_ -- t128
                  refine WH.y (Yl.add rfl rfl rfl) rfl ?_ -- t129
                  refine WH.y (Yl.nilCheck rfl) rfl ?_ -- t130
                  refine WH.y (Yl.field fo35_8 rfl) rfl ?_ -- t131
                  refine WH.y (Yl.indexA (j := 0) un33 sz22 rfl rfl rfl (by omega)) rfl ?_ -- t132
                  refine WH.nil ?_
                  refine WP.sto (Sto.one sz22 rfl rfl (by repeat (first | exact Take1.head | apply Take1.tail)) rfl (by rfl) (by rfl)) (fun _ h => nomatch h) ?_ -- st 9
                  refine WP.nil ?_
                  refine WC.seq ?_
                  refine WC.region ?_
                  refine WL.y (Yl.assign rfl) rfl ?_ -- t8
                  refine WL.nil ?_
                  refine WC.ret ?_
                  repeat (first | (with_reducible refine peelT ?_) | (with_reducible refine peelB ?_) | (with_reducible refine peelTX ?_) | (with_reducible refine peelBX ?_) | (with_reducible refine peelBN ?_) | (with_reducible refine peelBO rfl ?_))
                  have h70 : ¬ 512 < wr (ctr - C.nx) := g70
                  have e : C.put0 ctr (vW x) = ({ C with m := mput C.m ctr (vW x), k := wr (C.k + 1) }, 0) := by unfold Jb.put0; rw [if_neg (ne_true_of_eq_false g41), hk, if_neg (by decide), if_neg h70]
                  rw [e]
                  have hL : (L.take a ++ (ctr, x) :: L.drop a).length = L.length + 1 := by rw [List.length_append, List.length_take, List.length_cons, List.length_drop]; omega
                  exact ret1 (.inr rfl) Try.results11 rfl fun w' h => ⟨((ao121, c121), L.take a ++ (ctr, x) :: L.drop a), ⟨same_ins hS1 hlo hhi hk, by rw [hL]; exact Nat.le_refl _⟩, rfl, by dsimp only; rw [hL]; exact h.sub (by repeat (first | exact TakeL.nil | (apply TakeL.cons; · repeat (first | exact Take1.head | apply Take1.tail))))⟩
              · refine WO.to rfl rfl .no (To.buildSlice (vs := [.agg (thC (ctr, x)).toArray]) un32 zs46 rfl rfl (by simp [Value.cells, thC]) (by decide) (by decide)) rfl (fun _ => ⟨_, (by repeat (first | exact TakeL.nil | (apply TakeL.cons; · repeat (first | exact Take1.head | apply Take1.tail))))⟩) ?_ -- t113
                intro b113
                refine WD.one 1 (by kernel_rfl) ?_
                refine WO.to rfl rfl .no (To.buildSlice (vs := []) un32 zs46 rfl rfl (by simp [Value.cells]) (by decide) (by decide)) rfl (fun _ => ⟨_, (by repeat (first | exact TakeL.nil | (apply TakeL.cons; · repeat (first | exact Take1.head | apply Take1.tail))))⟩) ?_ -- t102
                intro b102
                rw [show flat [] = [] from rfl]
                refine WD.view (fun w h => h.blkOwn (b := b102) (size := 2) (n := 0) (by repeat (first | exact Take1.head | apply Take1.tail)) (by unfold maxLen; omega) rfl) ?_
                refine WD.one 8 (by kernel_rfl) ?_
                refine WO.to rfl rfl .no (To.append sl32 rfl rfl (by repeat (first | exact Take1.head | apply Take1.tail)) (Reads.of (RdOf.sub (r := ownR (.slice ao L.length ca) 46 2 L.length (vcs thV L)) RdOf.own (Nat.zero_le _) ha (cs' := vcs thV (L.take a)) (by rw [Nat.zero_mul, List.drop_zero, Nat.sub_zero, th_take])) (by repeat (first | exact Take1.head | apply Take1.tail))) (vtT.ones _) (by rw [Nat.sub_zero, Nat.zero_add]) (List.nil_append _) (by unfold maxLen; omega) (by omega)) rfl (fun _ => ⟨_, (by repeat (first | exact TakeL.nil | (apply TakeL.cons; · repeat (first | exact Take1.head | apply Take1.tail))))⟩) ?_ -- t109
                rintro ⟨⟨ao109, c109⟩, hc109⟩
                dsimp only at hc109 ⊢
                refine WD.one 13 (by kernel_rfl) ?_
                refine WO.to rfl rfl .no (To.append sl32 rfl rfl (by repeat (first | exact Take1.head | apply Take1.tail)) (Reads.of (r := blkR b113 46 (thC (ctr, x))) rdTh (by repeat (first | exact Take1.head | apply Take1.tail))) (thOnes (ctr, x)) rfl (show vcs thV (L.take a) ++ thC (ctr, x) = vcs thV (L.take a ++ [(ctr, x)]) by rw [vcs_app, vcs_one]; rfl) (by unfold maxLen; omega) (by omega)) rfl (fun _ => ⟨_, (by repeat (first | exact TakeL.nil | (apply TakeL.cons; · repeat (first | exact Take1.head | apply Take1.tail))))⟩) ?_ -- t114
                rintro ⟨⟨ao114, c114⟩, hc114⟩
                dsimp only at hc114 ⊢
                refine WD.one 20 (by kernel_rfl) ?_
                refine WO.to rfl rfl .no (To.append sl32 rfl rfl (by repeat (first | exact Take1.head | apply Take1.tail)) (Reads.of (RdOf.sub (r := ownR (.slice ao L.length ca) 46 2 L.length (vcs thV L)) RdOf.own ha (Nat.le_refl _) (cs' := vcs thV (L.drop a)) (by rw [th_drop, List.take_of_length_le (by rw [th_len, List.length_drop]; exact Nat.le_refl _)])) (by repeat (first | exact Take1.head | apply Take1.tail))) (vtT.ones _) (show a + 1 + (L.length - a) = L.length + 1 by omega) (show vcs thV (L.take a ++ [(ctr, x)]) ++ vcs thV (L.drop a) = vcs thV (L.take a ++ (ctr, x) :: L.drop a) by rw [← vcs_app, List.append_assoc]; rfl) (by unfold maxLen; omega) (by omega)) rfl (fun _ => ⟨_, (by repeat (first | exact TakeL.nil | (apply TakeL.cons; · repeat (first | exact Take1.head | apply Take1.tail))))⟩) ?_ -- t121
                rintro ⟨⟨ao121, c121⟩, hc121⟩
                dsimp only at hc121 ⊢
                refine WD.take 21 rfl (by kernel_rfl) (by kernel_rfl) (by kernel_rfl) rfl rfl (Yl.nilCheck rfl) rfl ?_ -- t122
                refine WD.take 22 rfl (by kernel_rfl) (by kernel_rfl) (by kernel_rfl) rfl rfl (Yl.field fo35_7 rfl) rfl ?_ -- t123
                refine WD.done (by kernel_rfl) ?_
                refine ⟨_, (Sto.one sz32 rfl rfl (by repeat (first | exact Take1.head | apply Take1.tail)) rfl (by rfl) (by rfl)), ?_⟩ -- st 8
                refine WC.seq ?_
                refine WC.drawTail 9 mixed (by kernel_rfl) ?_
                refine WH.y (Yl.move rfl) rfl ?_ -- t124
                refine WH.y (Yl.nilCheck rfl) rfl ?_ -- t125
                refine WH.y (Yl.field fo35_8 rfl) rfl ?_ -- t126
                refine WH.y (Yl.indexA (j := 0) un33 sz22 rfl rfl rfl (by omega)) rfl ?_ -- t127
                refine WH.y (Yl.load on22 rfl (by repeat (first | exact Take1.head | apply Take1.tail)) (by rfl)) rfl ?_ -- t128
                refine WH.y (Yl.add rfl rfl rfl) rfl ?_ -- t129
                refine WH.y (Yl.nilCheck rfl) rfl ?_ -- t130
                refine WH.y (Yl.field fo35_8 rfl) rfl ?_ -- t131
                refine WH.y (Yl.indexA (j := 0) un33 sz22 rfl rfl rfl (by omega)) rfl ?_ -- t132
                refine WH.nil ?_
                refine WP.sto (Sto.one sz22 rfl rfl (by repeat (first | exact Take1.head | apply Take1.tail)) rfl (by rfl) (by rfl)) (fun _ h => nomatch h) ?_ -- st 9
                refine WP.nil ?_
                refine WC.seq ?_
                refine WC.region ?_
                refine WL.y (Yl.assign rfl) rfl ?_ -- t8
                refine WL.nil ?_
                refine WC.ret ?_
                repeat (first | (with_reducible refine peelT ?_) | (with_reducible refine peelB ?_) | (with_reducible refine peelTX ?_) | (with_reducible refine peelBX ?_) | (with_reducible refine peelBN ?_) | (with_reducible refine peelBO rfl ?_))
                have h70 : ¬ 512 < wr (ctr - C.nx) := g70
                have e : C.put0 ctr (vW x) = ({ C with m := mput C.m ctr (vW x), k := wr (C.k + 1) }, 0) := by unfold Jb.put0; rw [if_neg (ne_true_of_eq_false g41), hk, if_neg (by decide), if_neg h70]
                rw [e]
                have hL : (L.take a ++ (ctr, x) :: L.drop a).length = L.length + 1 := by rw [List.length_append, List.length_take, List.length_cons, List.length_drop]; omega
                exact ret1 (.inr rfl) Try.results11 rfl fun w' h => ⟨((ao121, c121), L.take a ++ (ctr, x) :: L.drop a), ⟨same_ins hS1 hlo hhi hk, by rw [hL]; exact Nat.le_refl _⟩, rfl, by dsimp only; rw [hL]; exact h.sub (by repeat (first | exact TakeL.nil | (apply TakeL.cons; · repeat (first | exact Take1.head | apply Take1.tail))))⟩

set_option maxRecDepth 100000 in
theorem rask_any (b : Nat) (ao : Option Addr) (ca : Nat) (B : Jb) (L : List (Int × Int)) (now : Int) (hF : B.Fwd) (hs : 0 < B.s) (hS : Same L B.m) (hl : L.length ≤ 1000000) (w : World) (hw : OK w (fpL (rfR b ao ca B L)) (rfR b ao ca B L) w) :
    Fn Try.prog 13 [.pointer (some ⟨b, 0, none⟩), .int .u64 now] (rfR b ao ca B L) w (fun y : (Option Addr × Nat) × List (Int × Int) => Same y.2 (B.next now (.int .u32 0)).1.m ∧ y.2.length ≤ L.length) (fun _ => .tuple #[(B.next now (.int .u32 0)).2.1, .int .u64 (B.next now (.int .u32 0)).2.2.1, .bool (B.next now (.int .u32 0)).2.2.2.1, .bool (B.next now (.int .u32 0)).2.2.2.2]) (fun y => rfR b y.1.1 y.1.2 (B.next now (.int .u32 0)).1 y.2) := by
  have hf := (hw.get (r := ownR (.slice ao L.length ca) 46 2 L.length (vcs thV L)) (.tail .head) : Sown _ _ _ _ _ _).rd.form
  obtain ⟨_, _, he, hcl, hml⟩ := hf
  cases he
  unfold rfR at hw ⊢
  have hme : B.m.isEmpty = decide ((L.length : Int) = 0) := by rw [← hS.len]; cases B.m <;> simp; omega
  refine enterF Try.func13 rfl Try.ntmps13 rfl hw ?_
  refine WC.seq ?_
  refine WC.region ?_
  refine WL.y (Yl.assign rfl) rfl ?_ -- t4
  refine WL.y (Yl.assign rfl) rfl ?_ -- t5
  refine WL.y (Yl.assign rfl) rfl ?_ -- t6
  refine WL.y (Yl.assign rfl) rfl ?_ -- t7
  refine WL.nil ?_
  refine WC.seq ?_
  refine WC.midE (α := Unit) (fun _ => [(26, .bool (!B.isDue now))]) (fun _ => [blkR b 35 (B.rcells (.slice ao L.length ca)), ownR (.slice ao L.length ca) 46 2 L.length (vcs thV L)]) (fun _ => True) ?_ ?_
  · refine WC.region ?_
    refine WL.y (Yl.move rfl) rfl ?_ -- t11
    refine WL.y (Yl.nilCheck rfl) rfl ?_ -- t12
    refine WL.y (Yl.field fo35_7 rfl) rfl ?_ -- t13
    refine WL.y (Yl.load on32 rfl (by repeat (first | exact Take1.head | apply Take1.tail)) (by rfl)) rfl ?_ -- t14
    refine WL.y (Yl.len un32 rfl) rfl ?_ -- t15
    refine WL.y (Yl.eql rfl rfl) rfl ?_ -- t16
    refine WL.y (Yl.move rfl) rfl ?_ -- t17
    refine WL.both (t := 17) rfl (fun g17 => ?_) (fun g17 => ?_)
    · refine WL.off rfl rfl rfl rfl ?_ -- t18
      refine WL.off rfl rfl rfl rfl ?_ -- t19
      refine WL.off rfl rfl rfl rfl ?_ -- t20
      refine WL.off rfl rfl rfl rfl ?_ -- t21
      refine WL.off rfl rfl rfl rfl ?_ -- t22
      refine WL.off rfl rfl rfl rfl ?_ -- t23
      refine WL.off rfl rfl rfl rfl ?_ -- t24
      refine WL.off rfl rfl rfl rfl ?_ -- t25
      refine WL.y (Yl.pickT rfl rfl) rfl ?_ -- t26
      refine WL.say (t := 26) (v' := .bool (!B.isDue now)) rfl (by (unfold Jb.isDue; rw [hme, g17]; first | rfl | simp [← Int.not_le])) ?_
      refine WL.nil ?_
      exact ⟨rfl, (), trivial, (by repeat (first | exact Sub.nil | refine Sub.cons rfl ?_)), (by repeat (first | exact Sub.nil | refine Sub.cons rfl ?_)), _, (by repeat (first | exact TakeL.nil | (apply TakeL.cons; · repeat (first | exact Take1.head | apply Take1.tail))))⟩
    · refine WL.on rfl rfl ?_
      refine WL.y (Yl.move rfl) rfl ?_ -- t18
      refine WL.on rfl rfl ?_
      refine WL.y (Yl.move rfl) rfl ?_ -- t19
      refine WL.on rfl rfl ?_
      refine WL.y (Yl.nilCheck rfl) rfl ?_ -- t20
      refine WL.on rfl rfl ?_
      refine WL.y (Yl.field fo35_6 rfl) rfl ?_ -- t21
      refine WL.on rfl rfl ?_
      refine WL.y (Yl.load on22 rfl (by repeat (first | exact Take1.head | apply Take1.tail)) (by rfl)) rfl ?_ -- t22
      refine WL.on rfl rfl ?_
      refine WL.callC (xs := [.tmp 18, .tmp 22]) (cap := []) rfl rfl en18 (by repeat (first | exact TakeL.nil | (apply TakeL.cons; · repeat (first | exact Take1.head | apply Take1.tail)))) (fun w hw => rdue_any b (.slice ao L.length ca) B B.nx hF.ok hs w hw.left.here) rfl ?_ -- t23 (*hailer/hailerref39.Buffer).Due
      rintro ⟨⟩ -
      dsimp only [List.cons_append, List.nil_append]
      refine WL.on rfl rfl ?_
      refine WL.y (Yl.move rfl) rfl ?_ -- t24
      refine WL.on rfl rfl ?_
      refine WL.y (Yl.gtr rfl rfl) rfl ?_ -- t25
      refine WL.y (Yl.pickF rfl rfl) rfl ?_ -- t26
      refine WL.say (t := 26) (v' := .bool (!B.isDue now)) rfl (by (unfold Jb.isDue; rw [hme, g17]; first | rfl | simp [← Int.not_le])) ?_
      refine WL.nil ?_
      exact ⟨rfl, (), trivial, (by repeat (first | exact Sub.nil | refine Sub.cons rfl ?_)), (by repeat (first | exact Sub.nil | refine Sub.cons rfl ?_)), _, (by repeat (first | exact TakeL.nil | (apply TakeL.cons; · repeat (first | exact Take1.head | apply Take1.tail))))⟩
  · rintro ⟨⟩ -
    dsimp only [List.cons_append, List.nil_append]
    refine WC.cond rfl (fun g26 => ?_) (fun g26 => ?_)
    · refine WC.seq ?_
      refine WC.region ?_
      refine WL.y (Yl.assign rfl) rfl ?_ -- t4
      refine WL.y (Yl.assign rfl) rfl ?_ -- t5
      refine WL.y (Yl.assign rfl) rfl ?_ -- t6
      refine WL.y (Yl.assign rfl) rfl ?_ -- t7
      refine WL.nil ?_
      refine WC.ret ?_
      repeat (first | (with_reducible refine peelT ?_) | (with_reducible refine peelB ?_) | (with_reducible refine peelTX ?_) | (with_reducible refine peelBX ?_) | (with_reducible refine peelBN ?_) | (with_reducible refine peelBO rfl ?_))
      have hd : ¬ B.isDue now = true := by simpa using g26
      have hn : B.next now (.int .u32 0) = (B, .int .u32 0, 0, false, false) := by unfold Jb.next; rw [if_neg hd]
      rw [hn]
      exact ret4 (.inr rfl) Try.results13 rfl rfl rfl rfl fun w' h => ⟨((ao, ca), L), ⟨hS, Nat.le_refl _⟩, rfl, h.sub (by repeat (first | exact TakeL.nil | (apply TakeL.cons; · repeat (first | exact Take1.head | apply Take1.tail))))⟩
    · refine WC.skip ?_
      refine WC.seq ?_
      have hd : B.isDue now = true := by simpa using g26
      have hn : B.next now (.int .u32 0) = (B.step, (mget B.m B.nx).getD (.int .u32 0), B.nx, !(mget B.m B.nx).isSome, true) := by unfold Jb.next; rw [if_pos hd]
      rw [hn]
      dsimp only
      have hov : B.ov = false := by
        cases e : B.ov with
        | false => rfl
        | true => exact absurd (hF.ov e) (isDue_ne hd)
      have hnx := hF.ok.nx
      have hpl := plI_cases L B.nx hS.nd
      have hgm := hS.get B.nx
      refine WC.region ?_
      refine WL.y (Yl.move rfl) rfl ?_ -- t27
      refine WL.y (Yl.nilCheck rfl) rfl ?_ -- t28
      refine WL.y (Yl.field fo35_6 rfl) rfl ?_ -- t29
      refine WL.y (Yl.load on22 rfl (by repeat (first | exact Take1.head | apply Take1.tail)) (by rfl)) rfl ?_ -- t30
      refine WL.y (Yl.assign rfl) rfl ?_ -- t8
      refine WL.nil ?_
      refine WC.seq ?_
      refine WC.region ?_
      refine WL.y (Yl.move rfl) rfl ?_ -- t31
      refine WL.y (Yl.move rfl) rfl ?_ -- t32
      refine WL.callC (xs := [.tmp 31, .tmp 32]) (cap := []) rfl rfl en40 (by repeat (first | exact TakeL.nil | (apply TakeL.cons; · repeat (first | exact Take1.head | apply Take1.tail)))) (fun w hw => place_any b ao ca B L B.nx hl w hw.left.here) rfl ?_ -- t33 (*hailer/hailerref39.Buffer).place
      rintro ⟨⟩ -
      dsimp only [rfR, List.cons_append, List.nil_append]
      refine WL.y (Yl.assign rfl) rfl ?_ -- t9
      refine WL.nil ?_
      refine WC.seq ?_
      refine WC.region ?_
      refine WL.y (Yl.assign rfl) rfl ?_ -- t10
      refine WL.nil ?_
      refine WC.midX (α := (Option Addr × Nat) × List (Int × Int)) (fun _ => [(0, .pointer (some ⟨b, 0, none⟩)), (8, .int .u64 B.nx), (9, .int .i64 (plI L B.nx)), (10, (mget B.m B.nx).getD (.int .u32 0))]) (fun y => [blkR b 35 ({ B with p := if (mget B.m B.nx).isSome then wr (B.p + 1) else B.p, l := if (mget B.m B.nx).isSome then B.l else wr (B.l + 1) }.rcells (.slice y.1.1 y.2.length y.1.2)), ownR (.slice y.1.1 y.2.length y.1.2) 46 2 y.2.length (vcs thV y.2)]) (fun y => Same y.2 (mdel B.m B.nx) ∧ y.2.length ≤ L.length) ?_ ?_
      · refine WC.seq ?_
        refine WC.region ?_
        refine WL.y (Yl.move rfl) rfl ?_ -- t34
        refine WL.y (Yl.geq rfl rfl) rfl ?_ -- t35
        refine WL.nil ?_
        refine WC.condD rfl (fun g35 => ?_) (fun g35 => ?_)
        · refine WC.seq ?_
          obtain ⟨i, p, hp1, hp2, hp3, hp4⟩ := hpl.resolve_left (fun h => by omega)
          have hil : i < L.length := (List.getElem?_eq_some_iff.1 hp2).1
          rw [hp4] at hgm
          rw [hp1, hgm]
          refine WC.region ?_
          refine WL.y (Yl.move rfl) rfl ?_ -- t36
          refine WL.y (Yl.nilCheck rfl) rfl ?_ -- t37
          refine WL.y (Yl.field fo35_7 rfl) rfl ?_ -- t38
          refine WL.y (Yl.load on32 rfl (by repeat (first | exact Take1.head | apply Take1.tail)) (by rfl)) rfl ?_ -- t39
          refine WL.y (Yl.move rfl) rfl ?_ -- t40
          refine WL.y (Yl.index un32 sz46 rfl rfl (Reads.of (r := ownR (.slice ao L.length ca) 46 2 L.length (vcs thV L)) RdOf.own (by repeat (first | exact Take1.head | apply Take1.tail))) rfl (by omega)) rfl ?_ -- t41
          refine WL.y (Yl.fieldV (v := .slice ao L.length ca) (k := i * 2) fo46_1 rfl (Reads.of (r := ownR (.slice ao L.length ca) 46 2 L.length (vcs thV L)) RdOf.own (by repeat (first | exact Take1.head | apply Take1.tail))) (by rw [th_len]; omega)) rfl ?_
          refine WL.y (Yl.loadO (v := .slice ao L.length ca) (k := i * 2 + 1) on29 rfl (Reads.of (r := ownR (.slice ao L.length ca) 46 2 L.length (vcs thV L)) RdOf.own (by repeat (first | exact Take1.head | apply Take1.tail))) (th_at hp2).2) rfl ?_
          refine WL.y (Yl.assign rfl) rfl ?_ -- t10
          refine WL.nil ?_
          refine WC.seq ?_
          refine WC.drawLast 19 (Hs := [blkR b 35 (B.rcells (.slice ao L.length ca)), ownR (.slice ao L.length ca) 46 2 L.length (vcs thV L)]) rfl rfl mixed (by kernel_rfl) ⟨_, (by repeat (first | exact TakeL.nil | (apply TakeL.cons; · repeat (first | exact Take1.head | apply Take1.tail))))⟩ ?_
          dsimp only [List.dropLast]
          refine WD.take 0 rfl (by kernel_rfl) (by kernel_rfl) (by kernel_rfl) rfl rfl (Yl.move rfl) rfl ?_ -- t44
          refine WD.take 2 rfl (by kernel_rfl) (by kernel_rfl) (by kernel_rfl) rfl rfl (Yl.move rfl) rfl ?_ -- t46
          refine WD.take 3 rfl (by kernel_rfl) (by kernel_rfl) (by kernel_rfl) rfl rfl (Yl.nilCheck rfl) rfl ?_ -- t47
          refine WD.take 4 rfl (by kernel_rfl) (by kernel_rfl) (by kernel_rfl) rfl rfl (Yl.field fo35_7 rfl) rfl ?_ -- t48
          refine WD.take 5 rfl (by kernel_rfl) (by kernel_rfl) (by kernel_rfl) rfl rfl (Yl.load on32 rfl (by repeat (first | exact Take1.head | apply Take1.tail)) (by rfl)) rfl ?_ -- t49
          refine WD.take 6 rfl (by kernel_rfl) (by kernel_rfl) (by kernel_rfl) rfl rfl (Yl.move rfl) rfl ?_ -- t50
          refine WD.take 7 rfl (by kernel_rfl) (by kernel_rfl) (by kernel_rfl) rfl rfl (Yl.slice un32 sz46 rfl rfl ⟨_, rfl⟩ (by omega) (by omega)) rfl ?_ -- t51
          refine WD.take 9 rfl (by kernel_rfl) (by kernel_rfl) (by kernel_rfl) rfl rfl (Yl.move rfl) rfl ?_ -- t53
          refine WD.take 10 rfl (by kernel_rfl) (by kernel_rfl) (by kernel_rfl) rfl rfl (Yl.nilCheck rfl) rfl ?_ -- t54
          refine WD.take 11 rfl (by kernel_rfl) (by kernel_rfl) (by kernel_rfl) rfl rfl (Yl.field fo35_7 rfl) rfl ?_ -- t55
          refine WD.take 12 rfl (by kernel_rfl) (by kernel_rfl) (by kernel_rfl) rfl rfl (Yl.load on32 rfl (by repeat (first | exact Take1.head | apply Take1.tail)) (by rfl)) rfl ?_ -- t56
          refine WD.take 13 rfl (by kernel_rfl) (by kernel_rfl) (by kernel_rfl) rfl rfl (Yl.move rfl) rfl ?_ -- t57
          refine WD.take 14 rfl (by kernel_rfl) (by kernel_rfl) (by kernel_rfl) rfl rfl (Yl.add rfl rfl (IntWalk.i64_in _ (by omega))) rfl ?_ -- t58
          refine WD.say (t := 58) (v' := .int .i64 ((i + 1 : Nat) : Int)) rfl (by rfl) ?_
          refine WD.take 15 rfl (by kernel_rfl) (by kernel_rfl) (by kernel_rfl) rfl rfl (Yl.slice un32 sz46 rfl ⟨_, rfl⟩ rfl (by omega) (by omega)) rfl ?_ -- t59
          refine WD.one 1 (by kernel_rfl) ?_
          refine WO.to rfl rfl .no (To.buildSlice (vs := []) un32 zs46 rfl rfl (by simp [Value.cells]) (by decide) (by decide)) rfl (fun _ => ⟨_, (by repeat (first | exact TakeL.nil | (apply TakeL.cons; · repeat (first | exact Take1.head | apply Take1.tail))))⟩) ?_ -- t45
          intro b45
          rw [show flat [] = [] from rfl]
          refine WD.view (fun w h => h.blkOwn (b := b45) (size := 2) (n := 0) (by repeat (first | exact Take1.head | apply Take1.tail)) (by unfold maxLen; omega) rfl) ?_
          refine WD.one 8 (by kernel_rfl) ?_
          refine WO.to rfl rfl .no (To.append sl32 rfl rfl (by repeat (first | exact Take1.head | apply Take1.tail)) (Reads.of (RdOf.sub (r := ownR (.slice ao L.length ca) 46 2 L.length (vcs thV L)) RdOf.own (Nat.zero_le _) (Nat.le_of_lt hil) (cs' := vcs thV (L.take i)) (by rw [Nat.zero_mul, List.drop_zero, Nat.sub_zero, th_take])) (by repeat (first | exact Take1.head | apply Take1.tail))) (vtT.ones _) (by rw [Nat.sub_zero, Nat.zero_add]) (List.nil_append _) (by unfold maxLen; omega) (by omega)) rfl (fun _ => ⟨_, (by repeat (first | exact TakeL.nil | (apply TakeL.cons; · repeat (first | exact Take1.head | apply Take1.tail))))⟩) ?_ -- t52
          rintro ⟨⟨ao52, c52⟩, hc52⟩
          dsimp only at hc52 ⊢
          refine WD.one 16 (by kernel_rfl) ?_
          refine WO.to rfl rfl .no (To.append sl32 rfl rfl (by repeat (first | exact Take1.head | apply Take1.tail)) (Reads.of (RdOf.sub (r := ownR (.slice ao L.length ca) 46 2 L.length (vcs thV L)) RdOf.own hil (Nat.le_refl _) (cs' := vcs thV (L.drop (i + 1))) (by rw [show i.succ = i + 1 from rfl, th_drop, List.take_of_length_le (by rw [th_len, List.length_drop]; exact Nat.le_refl _)])) (by repeat (first | exact Take1.head | apply Take1.tail))) (vtT.ones _) (show i + (L.length - (i + 1)) = L.length - 1 by omega) (show vcs thV (L.take i) ++ vcs thV (L.drop (i + 1)) = vcs thV (L.take i ++ L.drop (i + 1)) by rw [← vcs_app]) (by unfold maxLen; omega) (by omega)) rfl (fun _ => ⟨_, (by repeat (first | exact TakeL.nil | (apply TakeL.cons; · repeat (first | exact Take1.head | apply Take1.tail))))⟩) ?_ -- t60
          rintro ⟨⟨ao60, c60⟩, hc60⟩
          dsimp only at hc60 ⊢
          refine WD.take 17 rfl (by kernel_rfl) (by kernel_rfl) (by kernel_rfl) rfl rfl (Yl.nilCheck rfl) rfl ?_ -- t61
          refine WD.take 18 rfl (by kernel_rfl) (by kernel_rfl) (by kernel_rfl) rfl rfl (Yl.field fo35_7 rfl) rfl ?_ -- t62
          refine WD.done (by kernel_rfl) ?_
          refine ⟨_, (Sto.one sz32 rfl rfl (by repeat (first | exact Take1.head | apply Take1.tail)) rfl (by rfl) (by rfl)), ?_⟩ -- st 1
          refine WC.drawTail 9 mixed (by kernel_rfl) ?_
          refine WH.y (Yl.move rfl) rfl ?_ -- t63
          refine WH.y (Yl.nilCheck rfl) rfl ?_ -- t64
          refine WH.y (Yl.field fo35_8 rfl) rfl ?_ -- t65
          refine WH.y (Yl.indexA (j := 1) un33 sz22 rfl rfl rfl (by omega)) rfl ?_ -- t66
          refine WH.y (Yl.load on22 rfl (by repeat (first | exact Take1.head | apply Take1.tail)) (by rfl)) rfl ?_ -- t67
          refine WH.y (Yl.add rfl rfl rfl) rfl ?_ -- t68
          refine WH.y (Yl.nilCheck rfl) rfl ?_ -- t69
          refine WH.y (Yl.field fo35_8 rfl) rfl ?_ -- t70
          refine WH.y (Yl.indexA (j := 1) un33 sz22 rfl rfl rfl (by omega)) rfl ?_ -- t71
          refine WH.nil ?_
          refine WP.sto (Sto.one sz22 rfl rfl (by repeat (first | exact Take1.head | apply Take1.tail)) rfl (by rfl) (by rfl)) (fun _ h => nomatch h) ?_ -- st 2
          refine WP.nil ?_
          have hL : (L.take i ++ L.drop (i + 1)).length = L.length - 1 := by rw [List.length_append, List.length_take, List.length_drop]; omega
          exact ⟨rfl, ((ao60, c60), L.take i ++ L.drop (i + 1)), ⟨by rw [← hp3]; exact same_del hS hp2, by rw [hL]; omega⟩, (by repeat (first | exact Sub.nil | refine Sub.cons rfl ?_)), _, by dsimp only; rw [hL]; exact (by repeat (first | exact TakeL.nil | (apply TakeL.cons; · repeat (first | exact Take1.head | apply Take1.tail))))⟩
        · have hp := hpl.resolve_right (fun ⟨i, p, h, _⟩ => by omega)
          rw [hp.2] at hgm
          rw [hgm]
          refine WC.drawTail 9 mixed (by kernel_rfl) ?_
          refine WH.y (Yl.move rfl) rfl ?_ -- t72
          refine WH.y (Yl.nilCheck rfl) rfl ?_ -- t73
          refine WH.y (Yl.field fo35_8 rfl) rfl ?_ -- t74
          refine WH.y (Yl.indexA (j := 2) un33 sz22 rfl rfl rfl (by omega)) rfl ?_ -- t75
          refine WH.y (Yl.load on22 rfl (by repeat (first | exact Take1.head | apply Take1.tail)) (by rfl)) rfl ?_ -- t76
          refine WH.y (Yl.add rfl rfl rfl) rfl ?_ -- t77
          refine WH.y (Yl.nilCheck rfl) rfl ?_ -- t78
          refine WH.y (Yl.field fo35_8 rfl) rfl ?_ -- t79
          refine WH.y (Yl.indexA (j := 2) un33 sz22 rfl rfl rfl (by omega)) rfl ?_ -- t80
          refine WH.nil ?_
          refine WP.sto (Sto.one sz22 rfl rfl (by repeat (first | exact Take1.head | apply Take1.tail)) rfl (by rfl) (by rfl)) (fun _ h => nomatch h) ?_ -- st 3
          refine WP.nil ?_
          refine ⟨rfl, ((ao, ca), L), ⟨by
            have : mdel B.m B.nx = B.m := by
              unfold mdel
              refine List.filter_eq_self.2 fun q hq => ?_
              simpa using mget_none.1 hgm q hq
            rw [this]; exact hS, Nat.le_refl _⟩, (by repeat (first | exact Sub.nil | refine Sub.cons rfl ?_)), _, (by repeat (first | exact TakeL.nil | (apply TakeL.cons; · repeat (first | exact Take1.head | apply Take1.tail))))⟩
      · rintro ⟨⟨ao2, ca2⟩, L2⟩ ⟨hS2, hl2⟩
        dsimp only at hS2 hl2 ⊢
        refine WC.midE (α := Unit) (fun _ => []) (fun _ => [blkR b 35 (B.step.rcells (.slice ao2 L2.length ca2)), ownR (.slice ao2 L2.length ca2) 46 2 L2.length (vcs thV L2)]) (fun _ => True) ?_ ?_
        · refine WC.seq ?_
          refine WC.region ?_
          refine WL.y (Yl.move rfl) rfl ?_ -- t81
          refine WL.y (Yl.eql rfl rfl) rfl ?_ -- t82
          refine WL.nil ?_
          refine WC.condD rfl (fun g82 => ?_) (fun g82 => ?_)
          · refine WC.seq ?_
            refine WC.region ?_
            refine WL.y (Yl.move rfl) rfl ?_ -- t83
            refine WL.y (Yl.nilCheck rfl) rfl ?_ -- t84
            refine WL.y (Yl.field fo35_3 rfl) rfl ?_ -- t85
            refine WL.sto (Sto.one sz4 rfl rfl (by repeat (first | exact Take1.head | apply Take1.tail)) rfl (by rfl) (by rfl)) (fun _ h => nomatch h) ?_ -- st 4
            refine WL.nil ?_
            refine WC.region ?_
            refine WL.y (Yl.move rfl) rfl ?_ -- t86
            refine WL.y (Yl.nilCheck rfl) rfl ?_ -- t87
            refine WL.y (Yl.field fo35_6 rfl) rfl ?_ -- t88
            refine WL.sto (Sto.one sz22 rfl rfl (by repeat (first | exact Take1.head | apply Take1.tail)) rfl (by rfl) (by rfl)) (fun _ h => nomatch h) ?_ -- st 5
            refine WL.nil ?_
            have h1 : wr (B.nx + 1) = 0 := by rw [g82]; exact wr_top
            have e : B.step = { B with m := mdel B.m B.nx, p := if (mget B.m B.nx).isSome then wr (B.p + 1) else B.p, l := if (mget B.m B.nx).isSome then B.l else wr (B.l + 1), nx := 0, ov := true } := by unfold Jb.step; rw [h1]; rfl
            rw [e]
            exact ⟨rfl, (), trivial, (by repeat (first | exact Sub.nil | refine Sub.cons rfl ?_)), (by repeat (first | exact Sub.nil | refine Sub.cons rfl ?_)), _, (by repeat (first | exact TakeL.nil | (apply TakeL.cons; · repeat (first | exact Take1.head | apply Take1.tail))))⟩
          · refine WC.region ?_
            refine WL.y (Yl.move rfl) rfl ?_ -- t89
            refine WL.y (Yl.move rfl) rfl ?_ -- t90
            refine WL.y (Yl.add rfl rfl rfl) rfl ?_ -- t91
            refine WL.say (t := 91) (v' := .int .u64 (wr (B.nx + 1))) rfl (by rfl) ?_
            refine WL.y (Yl.nilCheck rfl) rfl ?_ -- t92
            refine WL.y (Yl.field fo35_6 rfl) rfl ?_ -- t93
            refine WL.sto (Sto.one sz22 rfl rfl (by repeat (first | exact Take1.head | apply Take1.tail)) rfl (by rfl) (by rfl)) (fun _ h => nomatch h) ?_ -- st 6
            refine WL.nil ?_
            have hn1 := hnx.1
            have hn2 := hnx.2
            have h1 : ¬ wr (B.nx + 1) = 0 := by rw [wr_in ⟨by omega, by omega⟩]; omega
            have e : B.step = { B with m := mdel B.m B.nx, p := if (mget B.m B.nx).isSome then wr (B.p + 1) else B.p, l := if (mget B.m B.nx).isSome then B.l else wr (B.l + 1), nx := wr (B.nx + 1) } := by unfold Jb.step; rw [decide_eq_false h1, hov]
            rw [e]
            exact ⟨rfl, (), trivial, (by repeat (first | exact Sub.nil | refine Sub.cons rfl ?_)), (by repeat (first | exact Sub.nil | refine Sub.cons rfl ?_)), _, (by repeat (first | exact TakeL.nil | (apply TakeL.cons; · repeat (first | exact Take1.head | apply Take1.tail))))⟩
        · rintro ⟨⟩ -
          dsimp only [List.nil_append]
          refine WC.seq ?_
          refine WC.region ?_
          refine WL.y (Yl.move rfl) rfl ?_ -- t94
          refine WL.y (Yl.move rfl) rfl ?_ -- t95
          refine WL.y (Yl.move rfl) rfl ?_ -- t96
          refine WL.y (Yl.lss rfl rfl) rfl ?_ -- t97
          refine WL.say (t := 97) (v' := .bool (!(mget B.m B.nx).isSome)) rfl (by (refine congrArg Value.bool ?_; rcases hpl with ⟨h1, h2⟩ | ⟨i, p, h1, h2, h3, h4⟩; (rw [hgm, h1, h2]; rfl); (rw [hgm, h4]; simp; omega))) ?_
          refine WL.y (Yl.assign rfl) rfl ?_ -- t4
          refine WL.y (Yl.assign rfl) rfl ?_ -- t5
          refine WL.y (Yl.assign rfl) rfl ?_ -- t6
          refine WL.y (Yl.assign rfl) rfl ?_ -- t7
          refine WL.nil ?_
          refine WC.ret ?_
          repeat (first | (with_reducible refine peelT ?_) | (with_reducible refine peelB ?_) | (with_reducible refine peelTX ?_) | (with_reducible refine peelBX ?_) | (with_reducible refine peelBN ?_) | (with_reducible refine peelBO rfl ?_))
          exact ret4 (.inr rfl) Try.results13 rfl rfl rfl rfl fun w' h => ⟨((ao2, ca2), L2), ⟨hS2, hl2⟩, rfl, h.sub (by repeat (first | exact TakeL.nil | (apply TakeL.cons; · repeat (first | exact Take1.head | apply Take1.tail))))⟩
end Go.Proofs.Ytklbmgfpnafdlaa
