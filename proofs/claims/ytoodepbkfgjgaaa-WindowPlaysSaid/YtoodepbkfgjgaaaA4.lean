/- The counters in the window: the iterator's promise. -/
import Derived.Test.YtoodepbkfgjgaaaA2
import Derived.Test.YtoodepbkfgjgaaaA3
namespace Go.Proofs.Ytoodepbkfgjgaaa
open Go Go.RowKit
attribute [local go_sem] Oper.semAt_some

theorem filter_at {α : Type} (p : α → Bool) (l : List α) (i : Nat) (x : α) (hx : l[i]? = some x) (hp : p x = true) : (l.filter p)[((l.take i).filter p).length]? = some x := by
  have e : l = l.take i ++ x :: l.drop (i + 1) := by
    obtain ⟨h, rfl⟩ := List.getElem?_eq_some_iff.1 hx
    simp
  conv => lhs; arg 1; rw [e]
  simp [List.filter_append, hp]

theorem filter_take_succ {α : Type} (p : α → Bool) (l : List α) (i : Nat) (x : α) (hx : l[i]? = some x) : ((l.take (i + 1)).filter p).length = ((l.take i).filter p).length + (if p x then 1 else 0) := by
  obtain ⟨h, rfl⟩ := List.getElem?_eq_some_iff.1 hx
  rw [List.take_succ_eq_append_getElem h, List.filter_append, List.length_append]
  by_cases hp : p l[i] <;> simp [hp]

def Win.span (s : Win) : Nat := (min s.top 1023).toNat
def Win.ctrs (s : Win) : List Int := (List.range (s.span + 1)).map fun i : Nat => s.top - ((s.span : Int) - (i : Int))
def Win.all (s : Win) : List Int := if s.some then s.ctrs.filter s.has else []

set_option maxHeartbeats 2000000 in
theorem all1_iter (w0 : World) (b bw : Nat) (s : Win) (hb : Boxed w0 b 24 (.pointer (some ⟨bw, 0, none⟩))) (hs : WinAt w0 bw s) :
    Iter Try.prog 22 #[.pointer (some ⟨b, 0, none⟩)] (fun k => k = b ∨ k = bw) (s.all.map enc64) w0 := by
  intro l T0 J Jx W hW hown hT0 hJ hJx hY h00
  have hfac : ∀ T wr, ItOk (fun k => k = b ∨ k = bw) T W wr → Boxed wr b 24 (.pointer (some ⟨bw, 0, none⟩)) ∧ WinAt wr bw s := fun _ _ io =>
    ⟨(hW.trans io.c).boxed hb (fun h => h (.inl rfl)), hs.1, (hW.trans io.c).heap hs.2 (fun h => h (.inr rfl))⟩
  have HF := Lib.hid hfac; clear hfac
  have HO := Lib.hid hown; clear hown
  have HT := Lib.hid hT0; clear hT0
  obtain ⟨HB, HS⟩ := HF.out _ _ (ItOk.start HT.out)
  have hbW := HB.cell
  have hsm := HS.hsome
  have htp := HS.htop
  have t0 := hs.1.top0
  have t1 := hs.1.top1
  refine callsIn_of_wp Try.func22 rfl trivial ?_ rfl
  simp only [Try.ntmps22, List.size_toArray, List.length_cons, List.length_nil, Nat.reduceAdd, Nat.reduceSub, Array.replicate_succ, Array.replicate_zero, List.push_toArray, List.append_toArray, List.nil_append, List.cons_append]
  cases hsome : s.some with
  | false =>
    rw [hsome] at hsm
    gi_wp2
    refine bodyPost_ret (results_none rfl _ _ _) rfl ?_
    exact ⟨⟨_, rfl⟩, .inl ⟨T0, by simpa [Win.all, hsome] using h00⟩⟩
  | true =>
    rw [hsome] at hsm
    obtain ⟨m, hm⟩ : ∃ m, s.span = m := ⟨_, rfl⟩
    have hm1 : (m : Int) = min s.top 1023 := by rw [← hm]; unfold Win.span; omega
    have hmt : (m : Int) ≤ s.top := by omega
    have hget : ∀ i, i ≤ m → s.ctrs[i]? = some (s.top - ((m : Int) - (i : Int))) := by
      intro i hi; simp [Win.ctrs, hm, Nat.lt_succ_of_le hi]
    have hlen : s.ctrs.length = m + 1 := by simp [Win.ctrs, hm]
    have hall : s.all = s.ctrs.filter s.has := by simp [Win.all, hsome]
    have HL := Lib.hid hlen; clear hlen
    have HM := Lib.hid hm1; clear hm1
    have HG := Lib.hid hget; clear hget
    have HA := Lib.hid hall; clear hall
    clear hm hsome
    gi_wp2
    all_goals
      gi_loopw [3] (fun p wr => ∃ i T, i ≤ m ∧ p = .int .u64 ((m : Int) - (i : Int)) ∧ J ((s.ctrs.take i).filter s.has).length T wr ∧ ItOk (fun k => k = b ∨ k = bw) T W wr) (fun p _ => (intOf p).toNat)
      case atStart => exact ⟨0, T0, Nat.zero_le _, int_eq (by have := HM.out; omega), h00, ItOk.start HT.out⟩
      case round =>
        obtain ⟨i, T, hi, rfl, hJi, hio⟩ := hrel
        obtain ⟨HB', HS'⟩ := HF.out _ _ hio
        have hbW' := HB'.cell
        have htp' := HS'.htop
        have hh := fun wq (e : wq = wr) => callsIn_fw (ro := none) (n := 0) (has_any bw s (s.top - ((m : Int) - (i : Int))) wq (by omega) (by omega) (e ▸ HS'))
        cases hhas : s.has (s.top - ((m : Int) - (i : Int))) with
        | false =>
          rw [hhas] at hh
          have HN : Hid (((s.ctrs.take (i + 1)).filter s.has).length = ((s.ctrs.take i).filter s.has).length) := by
            have := filter_take_succ s.has _ _ _ (HG.out i hi); rw [hhas] at this; exact this
          clear hhas
          by_cases hlt : i < m
          · gi_wp2_with (gi_at_call 17; refine (hh _ rfl).mono ?_; rintro e w' ⟨rfl, rfl⟩)
            go_roundw
            case rel => exact ⟨i + 1, T, by omega, int_eq (by omega), by rw [HN.out]; exact hJi, hio⟩
            case measure => simp [intOf]; omega
          · gi_wp2_with (gi_at_call 17; refine (hh _ rfl).mono ?_; rintro e w' ⟨rfl, rfl⟩)
            refine bodyPost_ret (results_none rfl _ _ _) rfl ?_
            refine ⟨⟨_, rfl⟩, .inl ⟨T, ?_⟩⟩
            rw [List.length_map, HA.out, ← List.take_of_length_le (l := s.ctrs) (i := i + 1) (by rw [HL.out]; omega), HN.out]
            exact hJi
        | true =>
          rw [hhas] at hh
          have HN : Hid (((s.ctrs.take (i + 1)).filter s.has).length = ((s.ctrs.take i).filter s.has).length + 1) := by
            have := filter_take_succ s.has _ _ _ (HG.out i hi); rw [hhas] at this; exact this
          have HX : Hid ((s.all.map enc64)[((s.ctrs.take i).filter s.has).length]? = some (#[.int .u64 (s.top - ((m : Int) - (i : Int)))])) := by
            show _ = _
            rw [List.getElem?_map, HA.out, filter_at _ _ _ _ (HG.out i hi) hhas]; rfl
          obtain ⟨fn, tmps, assign, body, hy, hR⟩ := hY _ (#[.int .u64 (s.top - ((m : Int) - (i : Int)))]) T wr HX.out hJi hio.size hio.lt
          clear hhas
          by_cases hlt : i < m
          · gi_wp2_with (first | (gi_at_call 17; refine (hh _ rfl).mono ?_; rintro e w' ⟨rfl, rfl⟩))
            refine hR.mono ?_
            rintro e W3 (⟨rfl, T', hJ3, hk3, ha3⟩ | ⟨rfl, T', hJx3, hk3, ha3⟩)
            · gi_wp2
              go_roundw
              case rel => exact ⟨i + 1, T', by omega, int_eq (by omega), by rw [HN.out]; exact hJ3, hio.step HO.out hk3 ha3⟩
              case measure => simp [intOf]; omega
            · gi_wp2
              refine bodyPost_ret (results_none rfl _ _ _) rfl ?_
              exact ⟨⟨_, rfl⟩, .inr ⟨_, T', (List.getElem?_eq_some_iff.1 HX.out).1, hJx3⟩⟩
          · gi_wp2_with (first | (gi_at_call 17; refine (hh _ rfl).mono ?_; rintro e w' ⟨rfl, rfl⟩))
            refine hR.mono ?_
            rintro e W3 (⟨rfl, T', hJ3, hk3, ha3⟩ | ⟨rfl, T', hJx3, hk3, ha3⟩)
            · gi_wp2
              refine bodyPost_ret (results_none rfl _ _ _) rfl ?_
              refine ⟨⟨_, rfl⟩, .inl ⟨T', ?_⟩⟩
              rw [List.length_map, HA.out, ← List.take_of_length_le (l := s.ctrs) (i := i + 1) (by rw [HL.out]; omega), HN.out]
              exact hJ3
            · gi_wp2
              refine bodyPost_ret (results_none rfl _ _ _) rfl ?_
              exact ⟨⟨_, rfl⟩, .inr ⟨_, T', (List.getElem?_eq_some_iff.1 HX.out).1, hJx3⟩⟩
end Go.Proofs.Ytoodepbkfgjgaaa
