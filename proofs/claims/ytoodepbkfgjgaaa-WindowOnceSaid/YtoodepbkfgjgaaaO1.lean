/- No counter is noted twice; within the window of the greatest one each that did not come is new: the walk of the statement. -/
import Derived.Test.YtoodepbkfgjgaaaP1
import Derived.Test.YtoodepbkfgjgaaaB2
import Derived.Maps.OwnSet
import Derived.Maps.Views
namespace Go.Proofs.Ytoodepbkfgjgaaa
open Go Go.RowKit
attribute [local go_sem] Oper.semAt_some

/-- A set of counters, in a map. -/
def SetAt (w : World) (b : Nat) (acc : List Int) : Prop := (∀ x ∈ acc, (Lit.int .u64 x).wf = true) ∧ w.ownsMap (H := Unit) Try.prog 25 unitElem b acc.length (Maps.setOf (.agg []) (acc.map (Lit.int .u64)))

theorem SetAt.chg {S : Nat → Prop} {w w' : World} {b : Nat} {acc : List Int} (h : SetAt w b acc) (hc : Chg S w w') (hn : ¬ S b) : SetAt w' b acc := by
  obtain ⟨h0, es, clock, h1, rest⟩ := h
  exact ⟨h0, es, clock, hc.heap h1 hn, rest⟩

theorem setAt_new (w : World) : SetAt (w.alloc (.map #[] 0)) w.heap.size [] := ⟨fun x hx => (by cases hx), World.ownsMap_made w Try.prog 25 unitElem⟩

theorem law25 : Maps.Keyed Try.prog 25 := Maps.int_keyed Try.underlying25

theorem has_set (acc : List Int) (n : Int) : Maps.has (H := Unit) (Maps.setOf (.agg []) (acc.map (Lit.int .u64))) (.int .u64 n) = decide (n ∈ acc) := by
  rw [Maps.has_setOf _ _ _ (fun x hx => by obtain ⟨y, hy, rfl⟩ := List.mem_map.1 hx; trivial)]
  rw [List.any_map, Bool.eq_iff_iff]
  simp only [List.any_eq_true, Function.comp, decide_eq_true_eq, Lit.sameKey, true_and]
  constructor
  · rintro ⟨x, hx, rfl⟩; exact hx
  · intro h; exact ⟨n, h, rfl⟩

theorem wf_of_u64 {n : Int} (h0 : 0 ≤ n) (h1 : n < 18446744073709551616) : (Lit.int .u64 n).wf = true := by
  refine (Lit.wf_int_iff .u64 n).2 ?_
  have e1 : IntKind.u64.min = 0 := by decide
  have e2 : IntKind.u64.max = 18446744073709551615 := by decide
  rw [e1, e2]; omega

theorem setAt_snoc {w1 : World} {b : Nat} {acc : List Int} {n : Int} (h0 : ∀ x ∈ acc, (Lit.int .u64 x).wf = true) (hn : (Lit.int .u64 n).wf = true)
    (h : w1.ownsMap (H := Unit) Try.prog 25 unitElem b (acc.length + 1) ((Maps.setOf (.agg []) (acc.map (Lit.int .u64))).put (.int .u64 n) (.agg []))) : SetAt w1 b (acc ++ [n]) := by
  refine ⟨fun x hx => ?_, ?_⟩
  · rcases List.mem_append.1 hx with hx | hx
    · exact h0 x hx
    · simp at hx; rw [hx]; exact hn
  · rw [List.map_append, List.map_cons, List.map_nil, Maps.setOf_snoc, List.length_append]
    exact h

/-- What the law's own bookkeeping holds. -/
structure Book (s : Win) (acc : List Int) (top : Int) (sm : Bool) : Prop where
  knows : Knows s acc
  sme : sm = s.some
  top : s.some = true → top = s.top

def wantOf (acc : List Int) (top : Int) (sm : Bool) (n : Int) : Int := if sm = true ∧ n < top ∧ 1024 ≤ top - n then 161 else if n ∈ acc then 160 else 0

theorem want_see {s : Win} {acc : List Int} {top : Int} {sm : Bool} (h : Book s acc top sm) (n : Int) (h0 : 0 ≤ n) : s.see n = wantOf acc top sm n := by
  rw [see_knows h.knows n h0]
  unfold wantOf
  rw [h.sme]
  cases hs : s.some with
  | false => simp
  | true => rw [h.top hs]

theorem book_keep {s : Win} {acc : List Int} {top : Int} {sm : Bool} (h : Book s acc top sm) (n : Int) (hz : ¬ s.see n = 0) : Book (s.step n) acc top sm := by
  unfold Win.step; rw [if_neg hz]; exact h

theorem book_add {s : Win} {acc : List Int} {top : Int} {sm : Bool} (h : Book s acc top sm) (ht : sm = false → top = 0) (n : Int) (h0 : 0 ≤ n) (h1 : n < 18446744073709551616) (hz : s.see n = 0) : Book (s.step n) (acc ++ [n]) (max top n) true := by
  unfold Win.step; rw [if_pos hz]
  obtain ⟨k1, k2, k3⟩ := note_knows h.knows n h0 h1 hz
  refine ⟨k1, k2.symm, fun _ => ?_⟩
  rw [k3]
  cases hs : s.some with
  | false => have := ht (by rw [h.sme, hs]); simp; omega
  | true => rw [h.top hs]; simp

set_option maxRecDepth 100000 in
set_option maxHeartbeats 1000000 in
theorem once_walk (a : Option Addr) (c : Nat) (xs : List Int) (w : World) (hr : Rd w 1 (.slice a xs.length c) xs.length (ints .u64 xs)) (hn : Nums xs) :
    Calls Try.prog 4 #[.slice a xs.length c] w fun e w' => e = .returned (.bool true) ∧ Chg noB w w' := by
  obtain ⟨_, _, he, hl, hm⟩ := hr.form
  cases he
  unfold maxLen at hm
  have hb : xs.length ≤ 9223372036854775807 := by omega
  clear hl hm
  have R := Lib.hid hr
  have HN := Lib.hid hn
  have hmm := @run_makeMap Try.prog
  clear hr hn
  by_cases hbig : 2000 < xs.length
  · clear hmm
    go_enter Try.func4, Try.ntmps4
    go_wp2_with (go_at_call 5; refine (known_any _).mono ?_; rintro e w1 ⟨rfl, m1⟩; have M := Lib.hid m1; clear m1)
    go_ret
    exact ⟨rfl, M.out⟩
  · go_enter Try.func4, Try.ntmps4
    go_wp2_with (go_at_call 5; refine (known_any _).mono ?_; rintro e w1 ⟨rfl, m1⟩; have M := Lib.hid m1; clear m1)
    have hw0 := (zero_at w1).chg (Chg.alloc noB _ (.map #[] 0)) (fun h => h)
    have hset0 := setAt_new (w1.alloc (.cells #[.bool false, .int .u64 0, .int .u64 0, .int .u64 0, .int .u64 0, .int .u64 0, .int .u64 0, .int .u64 0, .int .u64 0, .int .u64 0, .int .u64 0, .int .u64 0, .int .u64 0, .int .u64 0, .int .u64 0, .int .u64 0, .int .u64 0, .int .u64 0] 28))
    rw [World.size_alloc] at hset0
    have hc0 : Chg noB w ((w1.alloc (.cells #[.bool false, .int .u64 0, .int .u64 0, .int .u64 0, .int .u64 0, .int .u64 0, .int .u64 0, .int .u64 0, .int .u64 0, .int .u64 0, .int .u64 0, .int .u64 0, .int .u64 0, .int .u64 0, .int .u64 0, .int .u64 0, .int .u64 0, .int .u64 0] 28)).alloc (.map #[] 0)) := (M.out.trans (Chg.alloc _ _ _)).trans (Chg.alloc _ _ _)
    have hz1 := M.out.size
    generalize (w1.alloc (.cells #[.bool false, .int .u64 0, .int .u64 0, .int .u64 0, .int .u64 0, .int .u64 0, .int .u64 0, .int .u64 0, .int .u64 0, .int .u64 0, .int .u64 0, .int .u64 0, .int .u64 0, .int .u64 0, .int .u64 0, .int .u64 0, .int .u64 0, .int .u64 0] 28)).alloc (.map #[] 0) = w0 at *
    have W1S := Lib.hid hz1
    clear hmm hz1
    go_loopw [5, 6, 23] (fun t m i wr => ∃ (k : Nat) (s : Win) (acc : List Int) (top : Int) (sm : Bool), k ≤ xs.length ∧ i = .int .i64 k ∧ t = .int .u64 top ∧ m = .bool sm ∧
      Book s acc top sm ∧ (sm = false → top = 0) ∧ (0 ≤ top ∧ top < 18446744073709551616) ∧ WinAt wr w1.heap.size s ∧ SetAt wr (w1.heap.size + 1) acc ∧ acc.length ≤ k ∧ Chg noB w wr) (fun _ _ i _ => xs.length - (intOf i).toNat)
    case atStart => exact ⟨0, Win.zero, [], 0, false, Nat.zero_le _, rfl, rfl, rfl, ⟨knows_zero, rfl, fun h => by simp [Win.zero] at h⟩, fun _ => rfl, ⟨by decide, by decide⟩, hw0, hset0, Nat.zero_le _, hc0⟩
    case round =>
      obtain ⟨k, s, acc, top, sm, hk, rfl, rfl, rfl, hbk, htf, ⟨t0, t1⟩, hw, hset, hacc, hch⟩ := hrel
      have HR := Lib.hid (And.intro hbk (And.intro htf (And.intro hw (And.intro hset hch))))
      clear hbk htf hw hset hch hw0 hset0 hc0
      by_cases hlt : k < xs.length
      · obtain ⟨p, o, x, rfl, _, hx, q⟩ := (R.out.chg HR.out.2.2.2.2 (fun _ _ h => h)).at k hlt
        obtain ⟨x0, x1⟩ := HN.out k x hx
        have hkey := Maps.keyOf_int_mk (P := Try.prog) Try.underlying25 (wf_of_u64 x0 x1)
        have hsee := want_see HR.out.1 x x0
        have hnote := fun W hW => note_any w1.heap.size s x W x0 x1 hW
        have HK := Lib.hid hkey
        have hal : acc.length < maxLen := by unfold maxLen; omega
        clear hx hkey
        by_cases hold : sm = true ∧ x < top ∧ 1024 ≤ top - x
        · obtain ⟨rfl, g1, g2⟩ := hold
          have e : s.see x = 161 := by rw [hsee]; unfold wantOf; rw [if_pos ⟨rfl, g1, g2⟩]
          rw [e] at hnote
          have HE := Lib.hid e
          clear hsee e
          go_wp2_with (first
            | (at_lookup; go_must (refine wpList_lookup_own_unit _ rfl _ _ 39 rfl 25 40 law25 Try.underlying39 (Try.zeroValue40 _) (w1.heap.size + 1) acc.length _ rfl HR.out.2.2.2.1.2 (.int .u64 x) (.int .u64 x) rfl HK.out ?_); rw [has_set])
            | (go_at_call 9; refine (hnote _ (HR.out.2.2.1.chg (Chg.alloc noB _ _) (fun h => h))).mono ?_; rintro e w2 ⟨rfl, n1, n2⟩; have N := Lib.hid (And.intro n1 n2); clear n1 n2))
          go_roundw
          case rel =>
            obtain ⟨r1, r2, r3, r4, r5⟩ := HR.out
            obtain ⟨n1, n2⟩ := N.out
            have hws := r5.size
            exact ⟨k + 1, s.step x, acc, top, _, by omega, by go_num, rfl, rfl, book_keep r1 x (by rw [HE.out]; decide), (fun h => by first | exact r2 h | exact r2 trivial), ⟨t0, t1⟩, n1, (r4.chg (Chg.alloc noB _ _) (fun h => h)).chg n2 (fun h => by have : w1.heap.size + 1 = w1.heap.size := h; omega), by omega, (r5.trans (Chg.alloc _ _ _)).step n2 (fun i hi => by cases hi; exact W1S.out)⟩
          case measure => simp [intOf]; omega
        · have hspl : sm = false ∨ (sm = true ∧ ¬ x < top) ∨ (sm = true ∧ x < top ∧ top - x < 1024) := by
            cases sm with
            | false => exact .inl rfl
            | true =>
              by_cases g : x < top
              · exact .inr (.inr ⟨rfl, g, Int.not_le.1 (fun e => hold ⟨rfl, g, e⟩)⟩)
              · exact .inr (.inl ⟨rfl, g⟩)
          have HOLD := Lib.hid hold
          clear hold
          by_cases hin : x ∈ acc
          · have e : s.see x = 160 := by rw [hsee]; unfold wantOf; rw [if_neg HOLD.out, if_pos hin]
            have hd : decide (x ∈ acc) = true := by simpa using hin
            rw [e] at hnote
            have HE := Lib.hid e
            have HDD := Lib.hid hd
            clear hsee e hd hin
            rcases hspl with rfl | ⟨rfl, g1⟩ | ⟨rfl, g1, g2⟩
            all_goals
              go_wp2_with (first
                | (at_lookup; go_must (refine wpList_lookup_own_unit _ rfl _ _ 39 rfl 25 40 law25 Try.underlying39 (Try.zeroValue40 _) (w1.heap.size + 1) acc.length _ rfl HR.out.2.2.2.1.2 (.int .u64 x) (.int .u64 x) rfl HK.out ?_); rw [has_set, HDD.out])
                | (go_at_call 9; refine (hnote _ (HR.out.2.2.1.chg (Chg.alloc noB _ _) (fun h => h))).mono ?_; rintro e w2 ⟨rfl, n1, n2⟩; have N := Lib.hid (And.intro n1 n2); clear n1 n2))
              go_roundw
              case rel =>
                obtain ⟨r1, r2, r3, r4, r5⟩ := HR.out
                obtain ⟨n1, n2⟩ := N.out
                have hws := r5.size
                exact ⟨k + 1, s.step x, acc, top, _, by omega, by go_num, rfl, rfl, book_keep r1 x (by rw [HE.out]; decide), (fun h => by first | exact r2 h | exact r2 trivial), ⟨t0, t1⟩, n1, (r4.chg (Chg.alloc noB _ _) (fun h => h)).chg n2 (fun h => by have : w1.heap.size + 1 = w1.heap.size := h; omega), by omega, (r5.trans (Chg.alloc _ _ _)).step n2 (fun i hi => by cases hi; exact W1S.out)⟩
              case measure => simp [intOf]; omega
          · have e : s.see x = 0 := by rw [hsee]; unfold wantOf; rw [if_neg HOLD.out, if_neg hin]
            have hd : decide (x ∈ acc) = false := by simpa using hin
            rw [e] at hnote
            have HE := Lib.hid e
            have HDD := Lib.hid hd
            clear hsee e hd hin
            rcases hspl with rfl | ⟨rfl, g1⟩ | ⟨rfl, g1, g2⟩
            all_goals
              go_wp2_with (first
                | (at_lookup; go_must (refine wpList_lookup_own_unit _ rfl _ _ 39 rfl 25 40 law25 Try.underlying39 (Try.zeroValue40 _) (w1.heap.size + 1) acc.length _ rfl HR.out.2.2.2.1.2 (.int .u64 x) (.int .u64 x) rfl HK.out ?_); rw [has_set, HDD.out])
                | (go_at_call 9; refine (hnote _ (HR.out.2.2.1.chg (Chg.alloc noB _ _) (fun h => h))).mono ?_; rintro e w2 ⟨rfl, n1, n2⟩; have N := Lib.hid (And.intro n1 n2); clear n1 n2)
                | (at_mapUpdate; go_must (refine wpList_mapUpdate_own _ rfl _ _ _ 39 rfl 25 40 law25 Try.underlying39 unitElem (w1.heap.size + 1) acc.length _ rfl (((HR.out.2.2.2.1.chg (Chg.alloc noB _ _) (fun h => h)).chg N.out.2 (fun h => by have : w1.heap.size + 1 = w1.heap.size := h; omega)).2) hal (.int .u64 x) (.agg #[]) (.int .u64 x) rfl rfl HK.out (.agg []) [] unitElem_mk ?_); intro w3 o1 o2; have O := Lib.hid (And.intro o1 o2); clear o1 o2))
              all_goals
                go_roundw
                case rel =>
                  obtain ⟨r1, r2, r3, r4, r5⟩ := HR.out
                  obtain ⟨n1, n2⟩ := N.out
                  obtain ⟨o1, o2⟩ := O.out
                  have ho : w2.grownBy w3 (some (w1.heap.size + 1)) := o2
                  have hc3 : Chg (oneB (w1.heap.size + 1)) w2 w3 := Chg.of_grownBy ho (fun k hk _ => by cases hk; rfl)
                  refine ⟨k + 1, s.step x, acc ++ [x], max top x, true, by omega, by go_num, int_eq (by omega), rfl, book_add r1 (fun h => by first | exact r2 h | exact r2 trivial) x x0 x1 HE.out, (fun h => by cases h), ⟨by omega, by omega⟩, n1.chg hc3 (fun h => by have : w1.heap.size = w1.heap.size + 1 := h; omega), setAt_snoc r4.1 (wf_of_u64 x0 x1) o1, by simp; omega, ((r5.trans (Chg.alloc _ _ _)).step n2 (fun i hi => by cases hi; exact W1S.out)).step hc3 (fun i hi => by cases hi; have := W1S.out; omega)⟩
                case measure => simp [intOf]; omega
      · go_wp2
        go_ret
        exact ⟨rfl, HR.out.2.2.2.2⟩
end Go.Proofs.Ytoodepbkfgjgaaa
