/- The reference's list of those in the window, rising: its walk. -/
import Derived.Test.YtoodepbkfgjgaaaA8
namespace Go.Proofs.Ytoodepbkfgjgaaa
open Go Go.RowKit
attribute [local go_sem] Oper.semAt_some

def insAt (out : List Int) (x : Int) : Nat := (out.takeWhile (fun y => decide (y < x))).length
def insIn (out : List Int) (x : Int) : List Int := out.take (insAt out x) ++ [x] ++ out.drop (insAt out x)
def allStep (top : Int) (out : List Int) (x : Int) : List Int := if 1023 < top - x then out else insIn out x
def refAll (xs : List Int) : List Int := xs.foldl (allStep (refTop xs)) []

theorem refAll_le (top : Int) (xs : List Int) : ∀ out : List Int, (xs.foldl (allStep top) out).length ≤ out.length + xs.length := by
  induction xs with
  | nil => intro out; simp
  | cons x xs ih =>
    intro out
    refine Nat.le_trans (ih _) ?_
    have : (allStep top out x).length ≤ out.length + 1 := by
      unfold allStep insIn; split
      · omega
      · simp; omega
    simp; omega

theorem insAt_of {out : List Int} {x : Int} {j : Nat} (hj : j ≤ out.length) (hp : ∀ i, i < j → out.getD i 0 < x) (he : j < out.length → ¬ out.getD j 0 < x) : insAt out x = j := by
  unfold insAt
  induction out generalizing j with
  | nil => simp at hj; simp [hj]
  | cons y out ih =>
    cases j with
    | zero =>
      have := he (by simp)
      simp at this
      simp [List.takeWhile_cons, show ¬ y < x by omega]
    | succ j =>
      have h0 := hp 0 (by omega)
      simp at h0
      have := ih (j := j) (by simpa using hj) (fun i hi => by simpa using hp (i + 1) (by omega)) (fun h => by simpa using he (by simpa using h))
      simp [List.takeWhile_cons, h0, this]

theorem insAt_le (out : List Int) (x : Int) : insAt out x ≤ out.length := by
  unfold insAt
  exact (List.takeWhile_sublist _).length_le

set_option maxRecDepth 100000 in
set_option maxHeartbeats 1000000 in
theorem refAll_any (v : Value) (xs : List Int) (w : World) (hr : Rd w 1 v xs.length (ints .u64 xs)) (hn : Nums xs) (hle : ∀ (i : Nat) (x : Int), xs[i]? = some x → x ≤ refTop xs) (hsm : xs.length * 8 ≤ 140737488355328) :
    Calls Try.prog 14 #[v] w fun e w' => ∃ ao cap, e = .returned (.slice ao (refAll xs).length cap) ∧
      Sown w' 25 1 (.slice ao (refAll xs).length cap) (refAll xs).length (ints .u64 (refAll xs)) ∧ Chg noB w w' ∧ (∀ k, blk (.slice ao (refAll xs).length cap) k → w.heap.size ≤ k) := by
  obtain ⟨t0, t1⟩ := refTop_range xs hn
  have hT := fun wq (e : wq = w) => refTop_any v xs wq (e ▸ hr)
  obtain ⟨ao, c, rfl, hl, hm⟩ := hr.form
  clear hl hm
  have R := Lib.hid hr
  have HN := Lib.hid hn
  have HL := Lib.hid hle
  have hb : xs.length ≤ 9223372036854775807 := by omega
  clear hr hn hle
  obtain ⟨T, hTT⟩ : ∃ T, refTop xs = T := ⟨_, rfl⟩
  rw [hTT] at hT t0 t1
  have HT := Lib.hid hTT
  clear hTT
  go_enter Try.func14, Try.ntmps14
  go_wp2_with (go_at_call 11; refine (hT _ rfl).mono ?_; rintro e w' ⟨rfl, hw'⟩; obtain rfl := hw'.symm)
  go_loopw [5, 6] (fun t i wr => ∃ (k : Nat) (out : List Int) (a' : Option Addr) (c' : Nat), k ≤ xs.length ∧ i = .int .i64 k ∧ t = .slice a' out.length c' ∧ out = (xs.take k).foldl (allStep T) [] ∧ out.length ≤ k ∧ Sown wr 25 1 (.slice a' out.length c') out.length (ints .u64 out) ∧ Chg noB w wr ∧ (∀ j, blk (.slice a' out.length c') j → w.heap.size ≤ j)) (fun _ i _ => xs.length - (intOf i).toNat)
  case atStart => exact ⟨0, [], none, 0, Nat.zero_le _, rfl, rfl, rfl, Nat.le_refl _, Sown.nil _ _ _, Chg.refl _ _, fun j hj => hj.elim⟩
  case round =>
    obtain ⟨k, out, a', c', hk, rfl, rfl, ho, hol, r1, r2, r3⟩ := hrel
    have HR := Lib.hid (And.intro ho (And.intro r1 (And.intro r2 r3)))
    clear ho r1 r2 r3
    by_cases hlt : k < xs.length
    · obtain ⟨p, o, x, rfl, _, hx, q⟩ := (R.out.chg HR.out.2.2.1 (fun j hj => fun h => h)).at k hlt
      obtain ⟨x0, x1⟩ := HN.out k x hx
      have hxT : x ≤ T := by have := HL.out k x hx; rwa [HT.out] at this
      have HX := Lib.hid hx
      clear hx hT
      by_cases hin : 1023 < T - x
      · go_wp2
        go_roundw
        case rel =>
          obtain ⟨ho, r1, r2, r3⟩ := HR.out
          refine ⟨k + 1, out, a', c', by omega, by go_num, rfl, ?_, by omega, r1, r2, r3⟩
          rw [foldl_take_succ _ _ _ _ _ HX.out, ← ho]
          unfold allStep; rw [if_pos hin]
        case measure => simp [intOf]; omega
      · go_wp2
        obtain ⟨wo, rfl⟩ : ∃ wo : World, wo = wr := ⟨_, rfl⟩
        go_loopw [7] (fun t wi => ∃ j : Nat, j ≤ out.length ∧ t = .int .i64 j ∧ (∀ i, i < j → out.getD i 0 < x) ∧ ∃ m, wi = wo.drewN m) (fun t _ => out.length - (intOf t).toNat)
        case atStart => exact ⟨0, Nat.zero_le _, rfl, fun i hi => by omega, 0, rfl⟩
        case round =>
          obtain ⟨j, hj, rfl, hp, m, rfl⟩ := hrel
          have HP := Lib.hid hp
          clear hp
          by_cases hjl : j < out.length
          · obtain ⟨p2, o2, y, rfl, hy, _, q2⟩ := HR.out.2.1.rd.at j hjl
            have HY := Lib.hid hy
            clear hy
            by_cases hyx : y < x
            · go_wp2
              go_quiet (fail)
              go_wp2
              go_roundw
              case rel => exact ⟨j + 1, by omega, by go_num, fun i hi => by
                by_cases hij : i = j
                · subst hij; rw [HY.out]; exact hyx
                · exact HP.out i (by omega), _, rfl⟩
              case measure => simp [intOf]; omega
            · go_wp2
              go_quiet (fail)
              go_wp2
              have HA : Hid (insAt out x = j) := insAt_of hj HP.out (fun _ => by rw [HY.out]; omega)
              obtain ⟨W, hW⟩ : ∃ W, (wo.drewN m).drewN nq = W := ⟨_, rfl⟩
              have hcc : Chg noB wo W := by rw [← hW]; exact (Chg.drewN _ _ _).trans (Chg.drewN _ _ _)
              have hq3 := hcc.cell q (fun h => h)
              have H1 := Lib.hid (And.intro (HR.out.2.1.chg hcc (fun _ _ h => h)) (And.intro (HR.out.2.2.1.trans hcc) hcc.size))
              rw [hW]
              clear hcc hW
              have hjc : out.length ≤ c' := by obtain ⟨_, _, he, h, _⟩ := H1.out.1.rd.form; cases he; exact h
              have i1 : (0 : Int) ≤ (j : Int) := by omega
              have i2 : (j : Int) ≤ (c' : Int) := by omega
              have i3 : (j : Int) ≤ (out.length : Int) := by omega
              have i4 : (0 : Int) ≤ (k : Int) := by omega
              have i5 : (k : Int) < (xs.length : Int) := by omega
              have hA : Rd W 1 (.slice (some ⟨p2, o2, none⟩) j c') j (ints .u64 (out.take j)) := by
                have := H1.out.1.rd.take j hj
                simpa [ints, List.map_take] using this
              have hB := H1.out.1.rd.from j hj
              rw [show (ints .u64 out).drop (j * 1) = ints .u64 (out.drop j) by simp [ints, List.map_drop]] at hB
              have hcj : ¬ c' = j := by omega
              rw [if_neg hcj] at hB
              simp only [Option.map_some, Addr.add_lit, Nat.mul_one] at hB
              have H2 := Lib.hid (And.intro hA hB)
              clear hA hB
              have P : Hid (Sown (W.alloc (.cells #[] 25)).drew 25 1 (.slice (some ⟨W.heap.size, 0, none⟩) 0 0) 0 [] ∧
                  Sown ((W.alloc (.cells #[] 25)).alloc (.cells #[.int .u64 x] 25)).drew 25 1 (.slice (some ⟨W.heap.size, 0, none⟩) 0 0) 0 [] ∧
                  Sown ((W.alloc (.cells #[.int .u64 x] 25)).alloc (.cells #[] 25)).drew 25 1 (.slice (some ⟨W.heap.size + 1, 0, none⟩) 0 0) 0 [] ∧
                  Rd ((W.alloc (.cells #[] 25)).alloc (.cells #[.int .u64 x] 25)).drew 1 (.slice (some ⟨W.heap.size + 1, 0, none⟩) 1 1) 1 (ints .u64 [x]) ∧
                  Rd ((W.alloc (.cells #[.int .u64 x] 25)).alloc (.cells #[] 25)).drew 1 (.slice (some ⟨W.heap.size, 0, none⟩) 1 1) 1 (ints .u64 [x])) := by
                have z : (W.alloc (.cells #[] 25)).heap.size = W.heap.size + 1 := by simp
                have z2 : (W.alloc (.cells #[.int .u64 x] 25)).heap.size = W.heap.size + 1 := by simp
                have m0 : 0 ≤ maxLen := Nat.zero_le _
                have m1 : 1 ≤ maxLen := by unfold maxLen; omega
                have a1 := Sown.new W 25 1 #[] 0 m0 rfl
                have a2 := a1.chg (Chg.alloc noB _ (.cells #[.int .u64 x] 25)) (fun _ _ h => h)
                have a3 := Sown.new (W.alloc (.cells #[.int .u64 x] 25)) 25 1 #[] 0 m0 rfl
                rw [z2] at a3
                have b2 := Sown.new (W.alloc (.cells #[] 25)) 25 1 #[.int .u64 x] 1 m1 rfl
                rw [z] at b2
                have b3 := (Sown.new W 25 1 #[.int .u64 x] 1 m1 rfl).chg (Chg.alloc noB _ (.cells #[] 25)) (fun _ _ h => h)
                exact ⟨a1.chg (Chg.drew noB _) (fun _ _ h => h), a2.chg (Chg.drew noB _) (fun _ _ h => h), a3.chg (Chg.drew noB _) (fun _ _ h => h), b2.rd.chg (Chg.drew noB _) (fun _ _ h => h), b3.rd.chg (Chg.drew noB _) (fun _ _ h => h)⟩
              have nb : Hid (∀ k, blk (.slice (some ⟨W.heap.size + 1, 0, none⟩) 1 1) k → ¬ blk (.slice (some ⟨W.heap.size, 0, none⟩) 0 0) k) := fun k h1 h2 => by
                have a : W.heap.size + 1 = k := h1
                have b : W.heap.size = k := h2
                omega
              have nc : Hid (∀ k, blk (.slice (some ⟨W.heap.size, 0, none⟩) 1 1) k → ¬ blk (.slice (some ⟨W.heap.size + 1, 0, none⟩) 0 0) k) := fun k h1 h2 => by
                have a : W.heap.size = k := h1
                have b : W.heap.size + 1 = k := h2
                omega
              go_region_held3 (fun w' => w'.cell? ⟨p, o + k, none⟩ = some (.int .u64 x))
                (first | exact (Chg.drew noB _).cell hq3 (fun h => h) | exact Chg.cell (S := noB) ‹Chg noB W _› hq3 (fun h => h) | exact Chg.cell (S := noB) ((Chg.alloc _ _ _).trans (Chg.drew _ _)) hq3 (fun h => h) | exact Chg.cell (S := noB) (((Chg.alloc _ _ _).trans (Chg.alloc _ _ _)).trans (Chg.drew _ _)) hq3 (fun h => h) | exact Chg.cell (S := noB) (Chg.alloc _ _ _) ‹_› (fun h => h))
                ((first
                  | (refine step_appN _ (s := .tmp 43) (x := .tmp 46) sl22 rfl rfl rfl rfl (n := 0) (xs := []) ?_ (m := j) (news := ints .u64 (out.take j)) ?_ (ints_one _ _) (N := j) (Nat.zero_add j) (by unfold maxLen; omega) (by omega) ?_
                     · go_must (first | exact P.out.1 | exact P.out.2.1 | exact P.out.2.2.1)
                     · go_must (refine H2.out.1.chg (S := noB) ?_ (fun _ _ h => h); first | exact (Chg.alloc _ _ _).trans (Chg.drew _ _) | exact ((Chg.alloc _ _ _).trans (Chg.alloc _ _ _)).trans (Chg.drew _ _))
                     intro a47 c47 w47 f1 f2 f3 _
                     have hz47 := f2.size
                     have k47 : Chg noB W w47 := Chg.step (by first | exact (Chg.alloc _ _ _).trans (Chg.drew _ _) | exact ((Chg.alloc _ _ _).trans (Chg.alloc _ _ _)).trans (Chg.drew _ _)) f2 (fun i hi => by first | (have e : W.heap.size = i := hi; omega) | (have e : W.heap.size + 1 = i := hi; omega))
                     have hz : W.heap.size < w47.heap.size := by
                       refine Nat.lt_of_lt_of_le ?_ hz47
                       first | exact Nat.lt_succ_self _ | exact Nat.lt_of_lt_of_le (Nat.lt_succ_self _) (Nat.le_succ _) | (simp; done) | (simp; omega)
                     have s47 : ∀ i, blk (.slice a47 j c47) i → W.heap.size ≤ i := fun i hi => by
                       rcases f3 i hi with h | h
                       · first | (have e : W.heap.size = i := h; omega) | (have e : W.heap.size + 1 = i := h; omega)
                       · have h1 := h.1
                         refine Nat.le_trans ?_ h1
                         first | exact (((Chg.alloc noB _ _).trans (Chg.drew _ _))).size | exact ((((Chg.alloc noB _ _).trans (Chg.alloc _ _ _)).trans (Chg.drew _ _))).size
                     clear hz47 hz
                     rw [List.nil_append] at f1
                     have F47 := Lib.hid (And.intro f1 (And.intro f2 (And.intro k47 s47)))
                     clear f1 f2 f3 s47)
                  | (refine step_app _ (s := .tmp 47) (x := .tmp 52) sl22 rfl rfl rfl rfl (n := j) (xs := ints .u64 (out.take j)) ?_ (m := 1) (news := ints .u64 [x]) ?_ (ints_one _ _) (by unfold maxLen; omega) (by omega) ?_
                     · go_must (first | exact F47.out.1 | exact F47.out.1.chg (Chg.alloc noB _ _) (fun _ _ h => h))
                     · go_must (first | exact (Sown.new w47 25 1 #[.int .u64 x] 1 (by unfold maxLen; omega) rfl).rd | exact P.out.2.2.2.1.chg F47.out.2.1 nb.out | exact P.out.2.2.2.2.chg F47.out.2.1 nc.out)
                     intro a53 c53 w53 g1 g2 g3 _
                     have k53 : Chg noB W w53 := Chg.step (by first | exact F47.out.2.2.1 | exact F47.out.2.2.1.trans (Chg.alloc _ _ _)) g2 F47.out.2.2.2
                     have s53 : ∀ i, blk (.slice a53 (j + 1) c53) i → W.heap.size ≤ i := fun i hi => by
                       rcases g3 i hi with h | h
                       · exact F47.out.2.2.2 i h
                       · refine Nat.le_trans F47.out.2.2.1.size (Nat.le_trans ?_ h.1)
                         first | exact Nat.le_refl _ | exact (Chg.alloc noB w47 _).size
                     have F53 := Lib.hid (And.intro g1 (And.intro k53 s53))
                     clear g1 g2 g3 s53 k47)
                  | (refine step_app _ (s := .tmp 53) (x := .tmp 56) sl22 rfl rfl rfl rfl (n := j + 1) (xs := ints .u64 (out.take j) ++ ints .u64 [x]) ?_ (m := (out.length - j)) (news := ints .u64 (out.drop j)) ?_ (ints_one _ _) (by unfold maxLen; omega) (by omega) ?_
                     · go_must (exact F53.out.1)
                     · go_must (exact H2.out.2.chg F53.out.2.1 (fun _ _ h => h))
                     intro a57 c57 w57 e1 e2 e3 _
                     have k57 : Chg noB W w57 := Chg.step F53.out.2.1 e2 F53.out.2.2
                     have s57 : ∀ i, blk (.slice a57 (j + 1 + (out.length - j)) c57) i → W.heap.size ≤ i := fun i hi => by
                       rcases e3 i hi with h | h
                       · exact F53.out.2.2 i h
                       · exact Nat.le_trans F53.out.2.1.size h.1
                     have F57 := Lib.hid (And.intro e1 (And.intro k57 s57))
                     clear e1 e2 e3 s57 k53)))
              all_goals
                go_wp2
                go_roundw
                case rel =>
                  obtain ⟨ho, r1, r2, r3⟩ := HR.out
                  obtain ⟨e1, e2, e3⟩ := F57.out
                  have hlen : (insIn out x).length = j + 1 + (out.length - j) := by unfold insIn; rw [HA.out]; simp <;> omega
                  refine ⟨k + 1, insIn out x, a57, c57, by omega, by go_num, by rw [hlen], ?_, by rw [hlen]; omega, ?_, H1.out.2.1.trans e2, ?_⟩
                  · rw [foldl_take_succ _ _ _ _ _ HX.out, ← ho]
                    unfold allStep; rw [if_neg (by omega)]
                  · rw [hlen]
                    have : ints .u64 (insIn out x) = ints .u64 (out.take j) ++ ints .u64 [x] ++ ints .u64 (out.drop j) := by unfold insIn; rw [HA.out]; simp [ints]
                    rw [this]
                    exact e1
                  · intro i hi
                    rw [hlen] at hi
                    have := e3 i hi
                    have := H1.out.2.2
                    have := HR.out.2.2.1.size
                    omega
                case measure => simp [intOf]; omega
          · have hd : decide ((j : Int) < (out.length : Int)) = false := by simp; omega
            go_wp2
            go_quiet (fail)
            go_wp2
            have HA : Hid (insAt out x = j) := insAt_of hj HP.out (fun h => absurd h hjl)
            obtain ⟨W, hW⟩ : ∃ W, (wo.drewN m).drewN nq = W := ⟨_, rfl⟩
            have hcc : Chg noB wo W := by rw [← hW]; exact (Chg.drewN _ _ _).trans (Chg.drewN _ _ _)
            have hq3 := hcc.cell q (fun h => h)
            have H1 := Lib.hid (And.intro (HR.out.2.1.chg hcc (fun _ _ h => h)) (And.intro (HR.out.2.2.1.trans hcc) hcc.size))
            rw [hW]
            clear hcc hW
            have hjc : out.length ≤ c' := by obtain ⟨_, _, he, h, _⟩ := H1.out.1.rd.form; cases he; exact h
            have i1 : (0 : Int) ≤ (j : Int) := by omega
            have i2 : (j : Int) ≤ (c' : Int) := by omega
            have i3 : (j : Int) ≤ (out.length : Int) := by omega
            have i4 : (0 : Int) ≤ (k : Int) := by omega
            have i5 : (k : Int) < (xs.length : Int) := by omega
            obtain rfl : j = out.length := by omega
            have hA : Rd W 1 (.slice a' out.length c') out.length (ints .u64 (out.take out.length)) := by
              rw [List.take_of_length_le (Nat.le_refl _)]; exact H1.out.1.rd
            have hcm : c' ≤ maxLen := by obtain ⟨_, _, he, _, h⟩ := H1.out.1.rd.form; cases he; exact h
            have H2 := Lib.hid (And.intro hA hcm)
            have hspl : (a' = none ∧ c' = 0 ∧ out = []) ∨ (∃ ba, a' = some ba ∧ c' = out.length) ∨ (∃ ba, a' = some ba ∧ ¬ c' = out.length) := by
              rcases hA.2 with ⟨he, h0⟩ | ⟨ba, cap, he, _⟩
              · simp only [Value.slice.injEq] at he; exact .inl ⟨he.1, he.2.2, List.eq_nil_of_length_eq_zero (by omega)⟩
              · simp only [Value.slice.injEq] at he
                obtain ⟨he, _⟩ := he
                by_cases hc : c' = out.length
                · exact .inr (.inl ⟨ba, he, hc⟩)
                · exact .inr (.inr ⟨ba, he, hc⟩)
            clear hA hcm
            have hnil : ints .u64 (out.drop out.length) = [] := by simp [ints]
            have HNIL := Lib.hid hnil
            clear hnil
            rcases hspl with ⟨rfl, rfl, rfl⟩ | ⟨ba, rfl, rfl⟩ | ⟨ba, rfl, hc0⟩
            · have P : Hid (Sown (W.alloc (.cells #[] 25)).drew 25 1 (.slice (some ⟨W.heap.size, 0, none⟩) 0 0) 0 [] ∧
                  Sown ((W.alloc (.cells #[] 25)).alloc (.cells #[.int .u64 x] 25)).drew 25 1 (.slice (some ⟨W.heap.size, 0, none⟩) 0 0) 0 [] ∧
                  Sown ((W.alloc (.cells #[.int .u64 x] 25)).alloc (.cells #[] 25)).drew 25 1 (.slice (some ⟨W.heap.size + 1, 0, none⟩) 0 0) 0 [] ∧
                  Rd ((W.alloc (.cells #[] 25)).alloc (.cells #[.int .u64 x] 25)).drew 1 (.slice (some ⟨W.heap.size + 1, 0, none⟩) 1 1) 1 (ints .u64 [x]) ∧
                  Rd ((W.alloc (.cells #[.int .u64 x] 25)).alloc (.cells #[] 25)).drew 1 (.slice (some ⟨W.heap.size, 0, none⟩) 1 1) 1 (ints .u64 [x])) := by
                have z : (W.alloc (.cells #[] 25)).heap.size = W.heap.size + 1 := by simp
                have z2 : (W.alloc (.cells #[.int .u64 x] 25)).heap.size = W.heap.size + 1 := by simp
                have m0 : 0 ≤ maxLen := Nat.zero_le _
                have m1 : 1 ≤ maxLen := by unfold maxLen; omega
                have a1 := Sown.new W 25 1 #[] 0 m0 rfl
                have a2 := a1.chg (Chg.alloc noB _ (.cells #[.int .u64 x] 25)) (fun _ _ h => h)
                have a3 := Sown.new (W.alloc (.cells #[.int .u64 x] 25)) 25 1 #[] 0 m0 rfl
                rw [z2] at a3
                have b2 := Sown.new (W.alloc (.cells #[] 25)) 25 1 #[.int .u64 x] 1 m1 rfl
                rw [z] at b2
                have b3 := (Sown.new W 25 1 #[.int .u64 x] 1 m1 rfl).chg (Chg.alloc noB _ (.cells #[] 25)) (fun _ _ h => h)
                exact ⟨a1.chg (Chg.drew noB _) (fun _ _ h => h), a2.chg (Chg.drew noB _) (fun _ _ h => h), a3.chg (Chg.drew noB _) (fun _ _ h => h), b2.rd.chg (Chg.drew noB _) (fun _ _ h => h), b3.rd.chg (Chg.drew noB _) (fun _ _ h => h)⟩
              have nb : Hid (∀ k, blk (.slice (some ⟨W.heap.size + 1, 0, none⟩) 1 1) k → ¬ blk (.slice (some ⟨W.heap.size, 0, none⟩) 0 0) k) := fun k h1 h2 => by
                have a : W.heap.size + 1 = k := h1
                have b : W.heap.size = k := h2
                omega
              have nc : Hid (∀ k, blk (.slice (some ⟨W.heap.size, 0, none⟩) 1 1) k → ¬ blk (.slice (some ⟨W.heap.size + 1, 0, none⟩) 0 0) k) := fun k h1 h2 => by
                have a : W.heap.size = k := h1
                have b : W.heap.size + 1 = k := h2
                omega
              go_region_held3 (fun w' => w'.cell? ⟨p, o + k, none⟩ = some (.int .u64 x))
                (first | exact (Chg.drew noB _).cell hq3 (fun h => h) | exact Chg.cell (S := noB) ‹Chg noB W _› hq3 (fun h => h) | exact Chg.cell (S := noB) ((Chg.alloc _ _ _).trans (Chg.drew _ _)) hq3 (fun h => h) | exact Chg.cell (S := noB) (((Chg.alloc _ _ _).trans (Chg.alloc _ _ _)).trans (Chg.drew _ _)) hq3 (fun h => h) | exact Chg.cell (S := noB) (Chg.alloc _ _ _) ‹_› (fun h => h))
                ((first
                  | (refine step_appN _ (s := .tmp 43) (x := .tmp 46) sl22 rfl rfl rfl rfl (n := 0) (xs := []) ?_ (m := 0) (news := ints .u64 ([] : List Int)) ?_ (ints_one _ _) (N := 0) (Nat.zero_add 0) (by unfold maxLen; omega) (by omega) ?_
                     · go_must (first | exact P.out.1 | exact P.out.2.1 | exact P.out.2.2.1)
                     · go_must (refine H2.out.1.chg (S := noB) ?_ (fun _ _ h => h); first | exact (Chg.alloc _ _ _).trans (Chg.drew _ _) | exact ((Chg.alloc _ _ _).trans (Chg.alloc _ _ _)).trans (Chg.drew _ _))
                     intro a47 c47 w47 f1 f2 f3 _
                     have hz47 := f2.size
                     have k47 : Chg noB W w47 := Chg.step (by first | exact (Chg.alloc _ _ _).trans (Chg.drew _ _) | exact ((Chg.alloc _ _ _).trans (Chg.alloc _ _ _)).trans (Chg.drew _ _)) f2 (fun i hi => by first | (have e : W.heap.size = i := hi; omega) | (have e : W.heap.size + 1 = i := hi; omega))
                     have hz : W.heap.size < w47.heap.size := by
                       refine Nat.lt_of_lt_of_le ?_ hz47
                       first | exact Nat.lt_succ_self _ | exact Nat.lt_of_lt_of_le (Nat.lt_succ_self _) (Nat.le_succ _) | (simp; done) | (simp; omega)
                     have s47 : ∀ i, blk (.slice a47 0 c47) i → W.heap.size ≤ i := fun i hi => by
                       rcases f3 i hi with h | h
                       · first | (have e : W.heap.size = i := h; omega) | (have e : W.heap.size + 1 = i := h; omega)
                       · have h1 := h.1
                         refine Nat.le_trans ?_ h1
                         first | exact (((Chg.alloc noB _ _).trans (Chg.drew _ _))).size | exact ((((Chg.alloc noB _ _).trans (Chg.alloc _ _ _)).trans (Chg.drew _ _))).size
                     clear hz47 hz
                     rw [List.nil_append] at f1
                     have F47 := Lib.hid (And.intro f1 (And.intro f2 (And.intro k47 s47)))
                     clear f1 f2 f3 s47)
                  | (refine step_app _ (s := .tmp 47) (x := .tmp 52) sl22 rfl rfl rfl rfl (n := 0) (xs := ints .u64 ([] : List Int)) ?_ (m := 1) (news := ints .u64 [x]) ?_ (ints_one _ _) (by unfold maxLen; omega) (by omega) ?_
                     · go_must (first | exact F47.out.1 | exact F47.out.1.chg (Chg.alloc noB _ _) (fun _ _ h => h))
                     · go_must (first | exact (Sown.new w47 25 1 #[.int .u64 x] 1 (by unfold maxLen; omega) rfl).rd | exact P.out.2.2.2.1.chg F47.out.2.1 nb.out | exact P.out.2.2.2.2.chg F47.out.2.1 nc.out)
                     intro a53 c53 w53 g1 g2 g3 _
                     have k53 : Chg noB W w53 := Chg.step (by first | exact F47.out.2.2.1 | exact F47.out.2.2.1.trans (Chg.alloc _ _ _)) g2 F47.out.2.2.2
                     have s53 : ∀ i, blk (.slice a53 (0 + 1) c53) i → W.heap.size ≤ i := fun i hi => by
                       rcases g3 i hi with h | h
                       · exact F47.out.2.2.2 i h
                       · refine Nat.le_trans F47.out.2.2.1.size (Nat.le_trans ?_ h.1)
                         first | exact Nat.le_refl _ | exact (Chg.alloc noB w47 _).size
                     have F53 := Lib.hid (And.intro g1 (And.intro k53 s53))
                     clear g1 g2 g3 s53 k47)
                  | (refine step_app _ (s := .tmp 53) (x := .tmp 56) sl22 rfl rfl rfl rfl (n := 0 + 1) (xs := ints .u64 ([] : List Int) ++ ints .u64 [x]) ?_ (m := 0) (news := []) ?_ (by simp) (by unfold maxLen; omega) (by omega) ?_
                     · go_must (exact F53.out.1)
                     · go_must (first | exact Rd.nil _ _ | exact Rd.zero (Nat.le_trans (Nat.sub_le _ _) H2.out.2) | exact Rd.zero (Nat.zero_le _))
                     intro a57 c57 w57 e1 e2 e3 _
                     have k57 : Chg noB W w57 := Chg.step F53.out.2.1 e2 F53.out.2.2
                     have s57 : ∀ i, blk (.slice a57 (0 + 1 + 0) c57) i → W.heap.size ≤ i := fun i hi => by
                       rcases e3 i hi with h | h
                       · exact F53.out.2.2 i h
                       · exact Nat.le_trans F53.out.2.1.size h.1
                     have F57 := Lib.hid (And.intro e1 (And.intro k57 s57))
                     clear e1 e2 e3 s57 k53)))
              all_goals
                go_wp2
                go_roundw
                case rel =>
                  obtain ⟨ho, r1, r2, r3⟩ := HR.out
                  obtain ⟨e1, e2, e3⟩ := F57.out
                  have hlen : (insIn [] x).length = 0 + 1 + 0 := by unfold insIn; rw [HA.out]; simp <;> omega
                  refine ⟨k + 1, insIn [] x, a57, c57, by omega, by go_num, by rw [hlen], ?_, by rw [hlen]; omega, ?_, H1.out.2.1.trans e2, ?_⟩
                  · rw [foldl_take_succ _ _ _ _ _ HX.out, ← ho]
                    unfold allStep; rw [if_neg (by omega)]
                  · rw [hlen]
                    have : ints .u64 (insIn [] x) = ints .u64 ([] : List Int) ++ ints .u64 [x] ++ [] := by unfold insIn; rw [HA.out]; rw [← HNIL.out]; simp [ints]
                    rw [this]
                    exact e1
                  · intro i hi
                    rw [hlen] at hi
                    have := e3 i hi
                    have := H1.out.2.2
                    have := HR.out.2.2.1.size
                    omega
                case measure => simp [intOf]; omega
            · have P : Hid (Sown (W.alloc (.cells #[] 25)).drew 25 1 (.slice (some ⟨W.heap.size, 0, none⟩) 0 0) 0 [] ∧
                  Sown ((W.alloc (.cells #[] 25)).alloc (.cells #[.int .u64 x] 25)).drew 25 1 (.slice (some ⟨W.heap.size, 0, none⟩) 0 0) 0 [] ∧
                  Sown ((W.alloc (.cells #[.int .u64 x] 25)).alloc (.cells #[] 25)).drew 25 1 (.slice (some ⟨W.heap.size + 1, 0, none⟩) 0 0) 0 [] ∧
                  Rd ((W.alloc (.cells #[] 25)).alloc (.cells #[.int .u64 x] 25)).drew 1 (.slice (some ⟨W.heap.size + 1, 0, none⟩) 1 1) 1 (ints .u64 [x]) ∧
                  Rd ((W.alloc (.cells #[.int .u64 x] 25)).alloc (.cells #[] 25)).drew 1 (.slice (some ⟨W.heap.size, 0, none⟩) 1 1) 1 (ints .u64 [x])) := by
                have z : (W.alloc (.cells #[] 25)).heap.size = W.heap.size + 1 := by simp
                have z2 : (W.alloc (.cells #[.int .u64 x] 25)).heap.size = W.heap.size + 1 := by simp
                have m0 : 0 ≤ maxLen := Nat.zero_le _
                have m1 : 1 ≤ maxLen := by unfold maxLen; omega
                have a1 := Sown.new W 25 1 #[] 0 m0 rfl
                have a2 := a1.chg (Chg.alloc noB _ (.cells #[.int .u64 x] 25)) (fun _ _ h => h)
                have a3 := Sown.new (W.alloc (.cells #[.int .u64 x] 25)) 25 1 #[] 0 m0 rfl
                rw [z2] at a3
                have b2 := Sown.new (W.alloc (.cells #[] 25)) 25 1 #[.int .u64 x] 1 m1 rfl
                rw [z] at b2
                have b3 := (Sown.new W 25 1 #[.int .u64 x] 1 m1 rfl).chg (Chg.alloc noB _ (.cells #[] 25)) (fun _ _ h => h)
                exact ⟨a1.chg (Chg.drew noB _) (fun _ _ h => h), a2.chg (Chg.drew noB _) (fun _ _ h => h), a3.chg (Chg.drew noB _) (fun _ _ h => h), b2.rd.chg (Chg.drew noB _) (fun _ _ h => h), b3.rd.chg (Chg.drew noB _) (fun _ _ h => h)⟩
              have nb : Hid (∀ k, blk (.slice (some ⟨W.heap.size + 1, 0, none⟩) 1 1) k → ¬ blk (.slice (some ⟨W.heap.size, 0, none⟩) 0 0) k) := fun k h1 h2 => by
                have a : W.heap.size + 1 = k := h1
                have b : W.heap.size = k := h2
                omega
              have nc : Hid (∀ k, blk (.slice (some ⟨W.heap.size, 0, none⟩) 1 1) k → ¬ blk (.slice (some ⟨W.heap.size + 1, 0, none⟩) 0 0) k) := fun k h1 h2 => by
                have a : W.heap.size = k := h1
                have b : W.heap.size + 1 = k := h2
                omega
              go_region_held3 (fun w' => w'.cell? ⟨p, o + k, none⟩ = some (.int .u64 x))
                (first | exact (Chg.drew noB _).cell hq3 (fun h => h) | exact Chg.cell (S := noB) ‹Chg noB W _› hq3 (fun h => h) | exact Chg.cell (S := noB) ((Chg.alloc _ _ _).trans (Chg.drew _ _)) hq3 (fun h => h) | exact Chg.cell (S := noB) (((Chg.alloc _ _ _).trans (Chg.alloc _ _ _)).trans (Chg.drew _ _)) hq3 (fun h => h) | exact Chg.cell (S := noB) (Chg.alloc _ _ _) ‹_› (fun h => h))
                ((first
                  | (refine step_appN _ (s := .tmp 43) (x := .tmp 46) sl22 rfl rfl rfl rfl (n := 0) (xs := []) ?_ (m := out.length) (news := ints .u64 (out.take out.length)) ?_ (ints_one _ _) (N := out.length) (Nat.zero_add out.length) (by unfold maxLen; omega) (by omega) ?_
                     · go_must (first | exact P.out.1 | exact P.out.2.1 | exact P.out.2.2.1)
                     · go_must (refine H2.out.1.chg (S := noB) ?_ (fun _ _ h => h); first | exact (Chg.alloc _ _ _).trans (Chg.drew _ _) | exact ((Chg.alloc _ _ _).trans (Chg.alloc _ _ _)).trans (Chg.drew _ _))
                     intro a47 c47 w47 f1 f2 f3 _
                     have hz47 := f2.size
                     have k47 : Chg noB W w47 := Chg.step (by first | exact (Chg.alloc _ _ _).trans (Chg.drew _ _) | exact ((Chg.alloc _ _ _).trans (Chg.alloc _ _ _)).trans (Chg.drew _ _)) f2 (fun i hi => by first | (have e : W.heap.size = i := hi; omega) | (have e : W.heap.size + 1 = i := hi; omega))
                     have hz : W.heap.size < w47.heap.size := by
                       refine Nat.lt_of_lt_of_le ?_ hz47
                       first | exact Nat.lt_succ_self _ | exact Nat.lt_of_lt_of_le (Nat.lt_succ_self _) (Nat.le_succ _) | (simp; done) | (simp; omega)
                     have s47 : ∀ i, blk (.slice a47 out.length c47) i → W.heap.size ≤ i := fun i hi => by
                       rcases f3 i hi with h | h
                       · first | (have e : W.heap.size = i := h; omega) | (have e : W.heap.size + 1 = i := h; omega)
                       · have h1 := h.1
                         refine Nat.le_trans ?_ h1
                         first | exact (((Chg.alloc noB _ _).trans (Chg.drew _ _))).size | exact ((((Chg.alloc noB _ _).trans (Chg.alloc _ _ _)).trans (Chg.drew _ _))).size
                     clear hz47 hz
                     rw [List.nil_append] at f1
                     have F47 := Lib.hid (And.intro f1 (And.intro f2 (And.intro k47 s47)))
                     clear f1 f2 f3 s47)
                  | (refine step_app _ (s := .tmp 47) (x := .tmp 52) sl22 rfl rfl rfl rfl (n := out.length) (xs := ints .u64 (out.take out.length)) ?_ (m := 1) (news := ints .u64 [x]) ?_ (ints_one _ _) (by unfold maxLen; omega) (by omega) ?_
                     · go_must (first | exact F47.out.1 | exact F47.out.1.chg (Chg.alloc noB _ _) (fun _ _ h => h))
                     · go_must (first | exact (Sown.new w47 25 1 #[.int .u64 x] 1 (by unfold maxLen; omega) rfl).rd | exact P.out.2.2.2.1.chg F47.out.2.1 nb.out | exact P.out.2.2.2.2.chg F47.out.2.1 nc.out)
                     intro a53 c53 w53 g1 g2 g3 _
                     have k53 : Chg noB W w53 := Chg.step (by first | exact F47.out.2.2.1 | exact F47.out.2.2.1.trans (Chg.alloc _ _ _)) g2 F47.out.2.2.2
                     have s53 : ∀ i, blk (.slice a53 (out.length + 1) c53) i → W.heap.size ≤ i := fun i hi => by
                       rcases g3 i hi with h | h
                       · exact F47.out.2.2.2 i h
                       · refine Nat.le_trans F47.out.2.2.1.size (Nat.le_trans ?_ h.1)
                         first | exact Nat.le_refl _ | exact (Chg.alloc noB w47 _).size
                     have F53 := Lib.hid (And.intro g1 (And.intro k53 s53))
                     clear g1 g2 g3 s53 k47)
                  | (refine step_app _ (s := .tmp 53) (x := .tmp 56) sl22 rfl rfl rfl rfl (n := out.length + 1) (xs := ints .u64 (out.take out.length) ++ ints .u64 [x]) ?_ (m := 0) (news := []) ?_ (by simp) (by unfold maxLen; omega) (by omega) ?_
                     · go_must (exact F53.out.1)
                     · go_must (first | exact Rd.nil _ _ | exact Rd.zero (Nat.le_trans (Nat.sub_le _ _) H2.out.2) | exact Rd.zero (Nat.zero_le _))
                     intro a57 c57 w57 e1 e2 e3 _
                     have k57 : Chg noB W w57 := Chg.step F53.out.2.1 e2 F53.out.2.2
                     have s57 : ∀ i, blk (.slice a57 (out.length + 1 + 0) c57) i → W.heap.size ≤ i := fun i hi => by
                       rcases e3 i hi with h | h
                       · exact F53.out.2.2 i h
                       · exact Nat.le_trans F53.out.2.1.size h.1
                     have F57 := Lib.hid (And.intro e1 (And.intro k57 s57))
                     clear e1 e2 e3 s57 k53)))
              all_goals
                go_wp2
                go_roundw
                case rel =>
                  obtain ⟨ho, r1, r2, r3⟩ := HR.out
                  obtain ⟨e1, e2, e3⟩ := F57.out
                  have hlen : (insIn out x).length = out.length + 1 + 0 := by unfold insIn; rw [HA.out]; simp <;> omega
                  refine ⟨k + 1, insIn out x, a57, c57, by omega, by go_num, by rw [hlen], ?_, by rw [hlen]; omega, ?_, H1.out.2.1.trans e2, ?_⟩
                  · rw [foldl_take_succ _ _ _ _ _ HX.out, ← ho]
                    unfold allStep; rw [if_neg (by omega)]
                  · rw [hlen]
                    have : ints .u64 (insIn out x) = ints .u64 (out.take out.length) ++ ints .u64 [x] ++ [] := by unfold insIn; rw [HA.out]; rw [← HNIL.out]; simp [ints]
                    rw [this]
                    exact e1
                  · intro i hi
                    rw [hlen] at hi
                    have := e3 i hi
                    have := H1.out.2.2
                    have := HR.out.2.2.1.size
                    omega
                case measure => simp [intOf]; omega
            · have P : Hid (Sown (W.alloc (.cells #[] 25)).drew 25 1 (.slice (some ⟨W.heap.size, 0, none⟩) 0 0) 0 [] ∧
                  Sown ((W.alloc (.cells #[] 25)).alloc (.cells #[.int .u64 x] 25)).drew 25 1 (.slice (some ⟨W.heap.size, 0, none⟩) 0 0) 0 [] ∧
                  Sown ((W.alloc (.cells #[.int .u64 x] 25)).alloc (.cells #[] 25)).drew 25 1 (.slice (some ⟨W.heap.size + 1, 0, none⟩) 0 0) 0 [] ∧
                  Rd ((W.alloc (.cells #[] 25)).alloc (.cells #[.int .u64 x] 25)).drew 1 (.slice (some ⟨W.heap.size + 1, 0, none⟩) 1 1) 1 (ints .u64 [x]) ∧
                  Rd ((W.alloc (.cells #[.int .u64 x] 25)).alloc (.cells #[] 25)).drew 1 (.slice (some ⟨W.heap.size, 0, none⟩) 1 1) 1 (ints .u64 [x])) := by
                have z : (W.alloc (.cells #[] 25)).heap.size = W.heap.size + 1 := by simp
                have z2 : (W.alloc (.cells #[.int .u64 x] 25)).heap.size = W.heap.size + 1 := by simp
                have m0 : 0 ≤ maxLen := Nat.zero_le _
                have m1 : 1 ≤ maxLen := by unfold maxLen; omega
                have a1 := Sown.new W 25 1 #[] 0 m0 rfl
                have a2 := a1.chg (Chg.alloc noB _ (.cells #[.int .u64 x] 25)) (fun _ _ h => h)
                have a3 := Sown.new (W.alloc (.cells #[.int .u64 x] 25)) 25 1 #[] 0 m0 rfl
                rw [z2] at a3
                have b2 := Sown.new (W.alloc (.cells #[] 25)) 25 1 #[.int .u64 x] 1 m1 rfl
                rw [z] at b2
                have b3 := (Sown.new W 25 1 #[.int .u64 x] 1 m1 rfl).chg (Chg.alloc noB _ (.cells #[] 25)) (fun _ _ h => h)
                exact ⟨a1.chg (Chg.drew noB _) (fun _ _ h => h), a2.chg (Chg.drew noB _) (fun _ _ h => h), a3.chg (Chg.drew noB _) (fun _ _ h => h), b2.rd.chg (Chg.drew noB _) (fun _ _ h => h), b3.rd.chg (Chg.drew noB _) (fun _ _ h => h)⟩
              have nb : Hid (∀ k, blk (.slice (some ⟨W.heap.size + 1, 0, none⟩) 1 1) k → ¬ blk (.slice (some ⟨W.heap.size, 0, none⟩) 0 0) k) := fun k h1 h2 => by
                have a : W.heap.size + 1 = k := h1
                have b : W.heap.size = k := h2
                omega
              have nc : Hid (∀ k, blk (.slice (some ⟨W.heap.size, 0, none⟩) 1 1) k → ¬ blk (.slice (some ⟨W.heap.size + 1, 0, none⟩) 0 0) k) := fun k h1 h2 => by
                have a : W.heap.size = k := h1
                have b : W.heap.size + 1 = k := h2
                omega
              go_region_held3 (fun w' => w'.cell? ⟨p, o + k, none⟩ = some (.int .u64 x))
                (first | exact (Chg.drew noB _).cell hq3 (fun h => h) | exact Chg.cell (S := noB) ‹Chg noB W _› hq3 (fun h => h) | exact Chg.cell (S := noB) ((Chg.alloc _ _ _).trans (Chg.drew _ _)) hq3 (fun h => h) | exact Chg.cell (S := noB) (((Chg.alloc _ _ _).trans (Chg.alloc _ _ _)).trans (Chg.drew _ _)) hq3 (fun h => h) | exact Chg.cell (S := noB) (Chg.alloc _ _ _) ‹_› (fun h => h))
                ((first
                  | (refine step_appN _ (s := .tmp 43) (x := .tmp 46) sl22 rfl rfl rfl rfl (n := 0) (xs := []) ?_ (m := out.length) (news := ints .u64 (out.take out.length)) ?_ (ints_one _ _) (N := out.length) (Nat.zero_add out.length) (by unfold maxLen; omega) (by omega) ?_
                     · go_must (first | exact P.out.1 | exact P.out.2.1 | exact P.out.2.2.1)
                     · go_must (refine H2.out.1.chg (S := noB) ?_ (fun _ _ h => h); first | exact (Chg.alloc _ _ _).trans (Chg.drew _ _) | exact ((Chg.alloc _ _ _).trans (Chg.alloc _ _ _)).trans (Chg.drew _ _))
                     intro a47 c47 w47 f1 f2 f3 _
                     have hz47 := f2.size
                     have k47 : Chg noB W w47 := Chg.step (by first | exact (Chg.alloc _ _ _).trans (Chg.drew _ _) | exact ((Chg.alloc _ _ _).trans (Chg.alloc _ _ _)).trans (Chg.drew _ _)) f2 (fun i hi => by first | (have e : W.heap.size = i := hi; omega) | (have e : W.heap.size + 1 = i := hi; omega))
                     have hz : W.heap.size < w47.heap.size := by
                       refine Nat.lt_of_lt_of_le ?_ hz47
                       first | exact Nat.lt_succ_self _ | exact Nat.lt_of_lt_of_le (Nat.lt_succ_self _) (Nat.le_succ _) | (simp; done) | (simp; omega)
                     have s47 : ∀ i, blk (.slice a47 out.length c47) i → W.heap.size ≤ i := fun i hi => by
                       rcases f3 i hi with h | h
                       · first | (have e : W.heap.size = i := h; omega) | (have e : W.heap.size + 1 = i := h; omega)
                       · have h1 := h.1
                         refine Nat.le_trans ?_ h1
                         first | exact (((Chg.alloc noB _ _).trans (Chg.drew _ _))).size | exact ((((Chg.alloc noB _ _).trans (Chg.alloc _ _ _)).trans (Chg.drew _ _))).size
                     clear hz47 hz
                     rw [List.nil_append] at f1
                     have F47 := Lib.hid (And.intro f1 (And.intro f2 (And.intro k47 s47)))
                     clear f1 f2 f3 s47)
                  | (refine step_app _ (s := .tmp 47) (x := .tmp 52) sl22 rfl rfl rfl rfl (n := out.length) (xs := ints .u64 (out.take out.length)) ?_ (m := 1) (news := ints .u64 [x]) ?_ (ints_one _ _) (by unfold maxLen; omega) (by omega) ?_
                     · go_must (first | exact F47.out.1 | exact F47.out.1.chg (Chg.alloc noB _ _) (fun _ _ h => h))
                     · go_must (first | exact (Sown.new w47 25 1 #[.int .u64 x] 1 (by unfold maxLen; omega) rfl).rd | exact P.out.2.2.2.1.chg F47.out.2.1 nb.out | exact P.out.2.2.2.2.chg F47.out.2.1 nc.out)
                     intro a53 c53 w53 g1 g2 g3 _
                     have k53 : Chg noB W w53 := Chg.step (by first | exact F47.out.2.2.1 | exact F47.out.2.2.1.trans (Chg.alloc _ _ _)) g2 F47.out.2.2.2
                     have s53 : ∀ i, blk (.slice a53 (out.length + 1) c53) i → W.heap.size ≤ i := fun i hi => by
                       rcases g3 i hi with h | h
                       · exact F47.out.2.2.2 i h
                       · refine Nat.le_trans F47.out.2.2.1.size (Nat.le_trans ?_ h.1)
                         first | exact Nat.le_refl _ | exact (Chg.alloc noB w47 _).size
                     have F53 := Lib.hid (And.intro g1 (And.intro k53 s53))
                     clear g1 g2 g3 s53 k47)
                  | (refine step_app _ (s := .tmp 53) (x := .tmp 56) sl22 rfl rfl rfl rfl (n := out.length + 1) (xs := ints .u64 (out.take out.length) ++ ints .u64 [x]) ?_ (m := 0) (news := []) ?_ (by simp) (by unfold maxLen; omega) (by omega) ?_
                     · go_must (exact F53.out.1)
                     · go_must (first | exact Rd.nil _ _ | exact Rd.zero (Nat.le_trans (Nat.sub_le _ _) H2.out.2) | exact Rd.zero (Nat.zero_le _))
                     intro a57 c57 w57 e1 e2 e3 _
                     have k57 : Chg noB W w57 := Chg.step F53.out.2.1 e2 F53.out.2.2
                     have s57 : ∀ i, blk (.slice a57 (out.length + 1 + 0) c57) i → W.heap.size ≤ i := fun i hi => by
                       rcases e3 i hi with h | h
                       · exact F53.out.2.2 i h
                       · exact Nat.le_trans F53.out.2.1.size h.1
                     have F57 := Lib.hid (And.intro e1 (And.intro k57 s57))
                     clear e1 e2 e3 s57 k53)))
              all_goals
                go_wp2
                go_roundw
                case rel =>
                  obtain ⟨ho, r1, r2, r3⟩ := HR.out
                  obtain ⟨e1, e2, e3⟩ := F57.out
                  have hlen : (insIn out x).length = out.length + 1 + 0 := by unfold insIn; rw [HA.out]; simp <;> omega
                  refine ⟨k + 1, insIn out x, a57, c57, by omega, by go_num, by rw [hlen], ?_, by rw [hlen]; omega, ?_, H1.out.2.1.trans e2, ?_⟩
                  · rw [foldl_take_succ _ _ _ _ _ HX.out, ← ho]
                    unfold allStep; rw [if_neg (by omega)]
                  · rw [hlen]
                    have : ints .u64 (insIn out x) = ints .u64 (out.take out.length) ++ ints .u64 [x] ++ [] := by unfold insIn; rw [HA.out]; rw [← HNIL.out]; simp [ints]
                    rw [this]
                    exact e1
                  · intro i hi
                    rw [hlen] at hi
                    have := e3 i hi
                    have := H1.out.2.2
                    have := HR.out.2.2.1.size
                    omega
                case measure => simp [intOf]; omega
    · go_wp2
      go_ret
      obtain ⟨ho, r1, r2, r3⟩ := HR.out
      obtain rfl : k = xs.length := by omega
      rw [List.take_of_length_le (Nat.le_refl _)] at ho
      have e : refAll xs = out := by unfold refAll; rw [HT.out, ho]
      rw [e]
      exact ⟨_, _, rfl, r1, r2, r3⟩
end Go.Proofs.Ytoodepbkfgjgaaa
