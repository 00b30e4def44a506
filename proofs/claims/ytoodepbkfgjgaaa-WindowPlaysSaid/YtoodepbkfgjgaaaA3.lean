/- The counters that come into the window: the iterator's promise. -/
import Derived.Test.YtoodepbkfgjgaaaA1
import Derived.Test.YtoodepbkfgjgaaaLibA
namespace Go.Proofs.Ytoodepbkfgjgaaa
open Go Go.RowKit
attribute [local go_sem] Oper.semAt_some

def freshN (top ctr : Int) : Nat := (min (ctr - min ctr top) 1024).toNat
def enc64 (n : Int) : Array Value := #[.int .u64 n]
def freshI (top ctr : Int) : List Int := (List.range (freshN top ctr)).map (fun i : Nat => ctr - ((freshN top ctr : Int) - (i : Int)) + 1)
def freshL (top ctr : Int) : List (Array Value) := (freshI top ctr).map enc64

theorem freshL_get (top ctr : Int) (i : Nat) (h : i < freshN top ctr) : (freshL top ctr)[i]? = some (#[.int .u64 (ctr - ((freshN top ctr : Int) - (i : Int)) + 1)]) := by
  simp [freshL, freshI, h, enc64]

theorem fresh1_iter (w0 : World) (bc bt : Nat) (top ctr : Int) (h0 : 0 ≤ top) (h1 : top < 18446744073709551616) (h2 : 0 ≤ ctr) (h3 : ctr < 18446744073709551616)
    (hc : Boxed w0 bc 25 (.int .u64 ctr)) (ht : Boxed w0 bt 25 (.int .u64 top)) :
    Iter Try.prog 21 #[.pointer (some ⟨bc, 0, none⟩), .pointer (some ⟨bt, 0, none⟩)] (fun k => k = bc ∨ k = bt) (freshL top ctr) w0 := by
  intro l T0 J Jx W hW hown hT0 hJ hJx hY h00
  have hfac : ∀ T wr, ItOk (fun k => k = bc ∨ k = bt) T W wr → wr.cell? ⟨bc, 0, none⟩ = some (.int .u64 ctr) ∧ wr.cell? ⟨bt, 0, none⟩ = some (.int .u64 top) := fun _ _ io =>
    ⟨((hW.trans io.c).boxed hc (fun h => h (.inl rfl))).cell, ((hW.trans io.c).boxed ht (fun h => h (.inr rfl))).cell⟩
  have HF := Lib.hid hfac; clear hfac
  obtain ⟨hcW, htW⟩ := HF.out _ _ (ItOk.start hT0)
  refine callsIn_of_wp Try.func21 rfl trivial ?_ rfl
  simp only [Try.ntmps21, List.size_toArray, List.length_cons, List.length_nil, Nat.reduceAdd, Nat.reduceSub, Array.replicate_succ, Array.replicate_zero, List.push_toArray, List.append_toArray, List.nil_append, List.cons_append]
  obtain ⟨m, hm⟩ : ∃ m, freshN top ctr = m := ⟨_, rfl⟩
  have hlen : (freshL top ctr).length = m := by simp [freshL, freshI, hm]
  have hm1 : (m : Int) = min (ctr - min ctr top) 1024 := by rw [← hm]; unfold freshN; omega
  have hget := freshL_get top ctr
  rw [hm] at hget
  have HL := Lib.hid hlen; clear hlen
  have HM := Lib.hid hm1; clear hm1
  have HG := Lib.hid hget; clear hget
  have HO := Lib.hid hown; clear hown
  have HT := Lib.hid hT0; clear hT0
  clear hm
  gi_wp2
  all_goals
    gi_loopw [4] (fun p wr => ∃ i T, i ≤ m ∧ p = .int .u64 ((m : Int) - (i : Int)) ∧ J i T wr ∧ ItOk (fun k => k = bc ∨ k = bt) T W wr) (fun p _ => (intOf p).toNat)
    case atStart => exact ⟨0, _, Nat.zero_le _, int_eq (by have := HM.out; omega), h00, ItOk.start HT.out⟩
    case round =>
      obtain ⟨i, T, hi, rfl, hJi, hio⟩ := hrel
      have hmc : (m : Int) ≤ ctr := by have := HM.out; omega
      obtain ⟨hcW', htW'⟩ := HF.out _ _ hio
      by_cases hlt : i < m
      · obtain ⟨fn, tmps, assign, body, hy, hR⟩ := hY i _ T wr (HG.out i hlt) hJi hio.size hio.lt
        gi_wp2
        refine hR.mono ?_
        rintro e W3 (⟨rfl, T', hJ3, hk3, ha3⟩ | ⟨rfl, T', hJx3, hk3, ha3⟩)
        · gi_wp2
          go_roundw
          case rel => exact ⟨i + 1, T', by omega, int_eq (by omega), hJ3, hio.step HO.out hk3 ha3⟩
          case measure => simp [intOf]; omega
        · gi_wp2
          refine bodyPost_ret (results_none rfl _ _ _) rfl ?_
          exact ⟨⟨_, rfl⟩, .inr ⟨i, T', by rw [HL.out]; exact hlt, hJx3⟩⟩
      · gi_wp2
        go_end0
        have : i = m := by omega
        subst this
        exact ⟨⟨_, rfl⟩, .inl ⟨T, by rw [HL.out]; exact hJi⟩⟩
end Go.Proofs.Ytoodepbkfgjgaaa
