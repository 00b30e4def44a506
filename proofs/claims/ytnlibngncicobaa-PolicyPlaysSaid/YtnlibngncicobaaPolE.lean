/- slices.Compact of numbers: the walk. -/
import Derived.Test.YtnlibngncicobaaPolD
import Derived.Test.YtnlibngncicobaaSoLH
namespace Go.Proofs.Ytnlibngncicobaa
open Go Go.RowKit
/-- Numbers taken together so far: zs's first k have what xs's first m have; what stands from m - 1 on is as it was. -/
structure CompS (xs zs : List Int) (k m : Nat) : Prop where
  len : zs.length = xs.length
  k1 : 1 ≤ k
  km : k + 1 ≤ m
  mn : m ≤ xs.length
  tail : ∀ j, m ≤ j + 1 → zs[j]? = xs[j]?
  mem : ∀ x, x ∈ zs.take k ↔ x ∈ xs.take m
theorem take_mem_snoc {xs : List Int} {m : Nat} {y : Int} (h : xs[m]? = some y) (x : Int) : x ∈ xs.take (m + 1) ↔ x ∈ xs.take m ∨ x = y := by
  rw [← take_snoc _ _ _ h, List.mem_append, List.mem_singleton]
theorem take_mem_last {xs : List Int} {m : Nat} {y : Int} (hm : 1 ≤ m) (h : xs[m - 1]? = some y) : y ∈ xs.take m := by
  have := (take_mem_snoc h y).2 (.inr rfl)
  rwa [Nat.sub_add_cancel hm] at this
theorem comp_start {xs : List Int} {k : Nat} {y : Int} (hk : 1 ≤ k) (h1 : xs[k]? = some y) (h2 : xs[k - 1]? = some y) : CompS xs xs k (k + 1) := by
  have hl := (List.getElem?_eq_some_iff.1 h1).1
  refine ⟨rfl, hk, Nat.le_refl _, hl, fun _ _ => rfl, fun x => ?_⟩
  rw [take_mem_snoc h1]
  constructor
  · exact .inl
  · rintro (h | rfl)
    · exact h
    · exact take_mem_last hk h2
theorem CompS.same {xs zs : List Int} {k m : Nat} {y : Int} (h : CompS xs zs k m) (h1 : xs[m]? = some y) (h2 : xs[m - 1]? = some y) : CompS xs zs k (m + 1) := by
  have hl := (List.getElem?_eq_some_iff.1 h1).1
  have hk := h.k1
  have hkm := h.km
  refine ⟨h.len, h.k1, by omega, hl, fun j hj => h.tail j (by omega), fun x => ?_⟩
  rw [h.mem, take_mem_snoc h1]
  constructor
  · exact .inl
  · rintro (h | rfl)
    · exact h
    · exact take_mem_last (by omega) h2
theorem CompS.put {xs zs : List Int} {k m : Nat} {y : Int} (h : CompS xs zs k m) (h1 : xs[m]? = some y) : CompS xs (zs.set k y) (k + 1) (m + 1) := by
  have hl := (List.getElem?_eq_some_iff.1 h1).1
  have hk := h.k1
  have hkm := h.km
  have hlen := h.len
  refine ⟨by rw [List.length_set, h.len], by omega, by omega, hl, fun j hj => ?_, fun x => ?_⟩
  · rw [List.getElem?_set_ne (by omega)]
    exact h.tail j (by omega)
  · have hz : (zs.set k y)[k]? = some y := by rw [List.getElem?_set_self (by omega)]
    rw [take_mem_snoc hz, take_mem_snoc h1, List.take_set_of_le (by omega), h.mem]
set_option maxRecDepth 100000 in
theorem compact_any (ao : Option Addr) (cap : Nat) (xs : List Int) (hl : xs.length ≤ 1000000) (w : World) (hw : OK w (fpL [ownR (.slice ao xs.length cap) 22 1 xs.length (ints .u16 xs)]) [ownR (.slice ao xs.length cap) 22 1 xs.length (ints .u16 xs)] w) :
    Fn Try.prog 79 [.slice ao xs.length cap] [ownR (.slice ao xs.length cap) 22 1 xs.length (ints .u16 xs)] w (fun y : List Int => (∀ x, x ∈ y ↔ x ∈ xs) ∧ y.length ≤ xs.length) (fun y => .slice ao y.length cap) (fun y => [ownR (.slice ao y.length cap) 22 1 y.length (ints .u16 y)]) := by
  have hcap : xs.length ≤ cap := Sown.le (hw.get .head)
  refine enterF Try.func79 rfl Try.ntmps79 rfl hw ?_
  refine WC.seq ?_
  refine WC.region ?_
  refine WL.y (Yl.assign rfl) rfl ?_
  refine WL.nil ?_
  refine WC.seq ?_
  refine WC.seq ?_
  refine WC.region ?_
  refine WL.y (Yl.move rfl) rfl ?_
  refine WL.y (Yl.len un65 rfl) rfl ?_
  refine WL.y (Yl.lss rfl rfl) rfl ?_
  refine WL.nil ?_
  refine WC.condD rfl (fun g8 => ?_) (fun g8 => ?_)
  · refine WC.seq ?_
    refine WC.region ?_
    refine WL.y (Yl.move rfl) rfl ?_
    refine WL.y (Yl.assign rfl) rfl ?_
    refine WL.nil ?_
    refine WC.ret ?_
    repeat (first | (with_reducible refine peelT ?_) | (with_reducible refine peelB ?_) | (with_reducible refine peelTX ?_) | (with_reducible refine peelBX ?_) | (with_reducible refine peelBN ?_) | (with_reducible refine peelBO rfl ?_))
    exact ret1 (.inr rfl) Try.results79 rfl fun w' h => ⟨xs, ⟨fun _ => Iff.rfl, Nat.le_refl _⟩, rfl, h.sub (by repeat (first | exact TakeL.nil | (apply TakeL.cons; · repeat (first | exact Take1.head | apply Take1.tail))))⟩
  · refine WC.skip ?_
    refine WC.seq ?_
    refine WC.seq ?_
    have h2 : 2 ≤ xs.length := by have := g8; omega
    refine WC.region ?_
    refine WL.y (Yl.assign rfl) rfl ?_
    refine WL.nil ?_
    refine WC.block ?_
    refine WC.loop (α := Nat) (fun k => [(0, .slice ao xs.length cap), (3, .int .i64 (k : Int))]) (fun _ => [ownR (.slice ao xs.length cap) 22 1 xs.length (ints .u16 xs)]) (fun k => 1 ≤ k ∧ k ≤ xs.length) (fun k => xs.length - k) 1 ⟨Nat.le_refl _, by omega⟩ ⟨(by repeat (first | exact Sub.nil | refine Sub.cons rfl ?_)), _, (by repeat (first | exact TakeL.nil | (apply TakeL.cons; · repeat (first | exact Take1.head | apply Take1.tail))))⟩ ?_
    rintro k ⟨hk1, hkn⟩
    refine WC.seq ?_
    refine WC.seq ?_
    refine WC.region ?_
    refine WL.y (Yl.move rfl) rfl ?_
    refine WL.y (Yl.move rfl) rfl ?_
    refine WL.y (Yl.len un65 rfl) rfl ?_
    refine WL.y (Yl.lss rfl rfl) rfl ?_
    refine WL.nil ?_
    refine WC.condD rfl (fun g13 => ?_) (fun g13 => ?_)
    · refine WC.skip ?_
      refine WC.seq ?_
      refine WC.block ?_
      refine WC.seq ?_
      have hkl : k < xs.length := by have := g13; omega
      obtain ⟨y, hy⟩ : ∃ y, xs[k]? = some y := ⟨_, List.getElem?_eq_getElem hkl⟩
      obtain ⟨z, hz⟩ : ∃ y, xs[k - 1]? = some y := ⟨_, List.getElem?_eq_getElem (by omega)⟩
      refine WC.drawRead mixed (by kernel_rfl) ?_
      refine WH.y (Yl.move rfl) rfl ?_
      refine WH.y (Yl.move rfl) rfl ?_
      refine WH.y (Yl.index un65 sz22 rfl rfl (Reads.of (r := ownR (.slice ao xs.length cap) 22 1 xs.length (ints .u16 xs)) RdOf.own (by repeat (first | exact Take1.head | apply Take1.tail))) rfl (by omega)) rfl ?_
      refine WH.y (Yl.loadE (j := k) on22 rfl (Reads.of (r := ownR (.slice ao xs.length cap) 22 1 xs.length (ints .u16 xs)) RdOf.own (by repeat (first | exact Take1.head | apply Take1.tail))) (u := .int .u16 y) (by simp [ints, hy])) rfl ?_
      refine WH.y (Yl.move rfl) rfl ?_
      refine WH.y (Yl.move rfl) rfl ?_
      refine WH.y (Yl.sub rfl rfl (IntWalk.i64_in _ (by omega))) rfl ?_
      refine WH.say (t := 22) (v' := .int .i64 ((k - 1 : Nat) : Int)) rfl (by (refine congrArg _ ?_; omega)) ?_
      refine WH.y (Yl.index un65 sz22 rfl rfl (Reads.of (r := ownR (.slice ao xs.length cap) 22 1 xs.length (ints .u16 xs)) RdOf.own (by repeat (first | exact Take1.head | apply Take1.tail))) rfl (by omega)) rfl ?_
      refine WH.y (Yl.loadE (j := k - 1) on22 rfl (Reads.of (r := ownR (.slice ao xs.length cap) 22 1 xs.length (ints .u16 xs)) RdOf.own (by repeat (first | exact Take1.head | apply Take1.tail))) (u := .int .u16 z) (by simp [ints, hz])) rfl ?_
      refine WH.y (Yl.eql rfl rfl) rfl ?_
      refine WH.nil ?_
      refine WC.condD rfl (fun g25 => ?_) (fun g25 => ?_)
      · refine WC.seq ?_
        have hyz : y = z := g25
        subst hyz
        refine WC.region ?_
        refine WL.y (Yl.move rfl) rfl ?_
        refine WL.y (Yl.move rfl) rfl ?_
        refine WL.y (Yl.slice (l := k) (h := xs.length) un65 sz22 rfl ⟨_, rfl⟩ rfl (by omega) (by omega)) rfl ?_
        refine WL.y (Yl.assign rfl) rfl ?_
        refine WL.nil ?_
        refine WC.seq ?_
        refine WC.seq ?_
        refine WC.region ?_
        refine WL.y (Yl.assign rfl) rfl ?_
        refine WL.nil ?_
        refine WC.block ?_
        refine WC.loop (α := List Int × Nat × Nat) (fun s => [(0, .slice ao xs.length cap), (3, .int .i64 (s.2.1 : Int)), (4, subS (.slice ao xs.length cap) k xs.length cap 1), (5, .int .i64 (s.2.2 : Int))]) (fun s => [ownR (.slice ao xs.length cap) 22 1 xs.length (ints .u16 s.1)]) (fun s => CompS xs s.1 s.2.1 (k + s.2.2) ∧ 1 ≤ s.2.2) (fun s => xs.length - (k + s.2.2)) (xs, k, 1) ⟨comp_start hk1 hy hz, Nat.le_refl _⟩ ⟨(by repeat (first | exact Sub.nil | refine Sub.cons rfl ?_)), _, (by repeat (first | exact TakeL.nil | (apply TakeL.cons; · repeat (first | exact Take1.head | apply Take1.tail))))⟩ ?_
        rintro ⟨zs, q, k2⟩ ⟨hS, hk21⟩
        dsimp only at hS hk21 ⊢
        have hmn := hS.mn
        have hkm := hS.km
        have hq1 := hS.k1
        have hzl := hS.len
        have hsub : RdOf (ownR (.slice ao xs.length cap) 22 1 xs.length (ints .u16 zs)) (subS (.slice ao xs.length cap) k xs.length cap 1) 1 (xs.length - k) (ints .u16 (zs.drop k)) := RdOf.sub RdOf.own (by omega) (Nat.le_refl _) (by rw [Nat.mul_one, Nat.mul_one, ints_drop, List.take_of_length_le (by rw [ints_length, List.length_drop, hzl]; exact Nat.le_refl _)])
        refine WC.seq ?_
        refine WC.seq ?_
        refine WC.region ?_
        refine WL.y (Yl.move rfl) rfl ?_
        refine WL.y (Yl.move rfl) rfl ?_
        refine WL.y (Yl.len un65 rfl) rfl ?_
        refine WL.y (Yl.lss rfl rfl) rfl ?_
        refine WL.nil ?_
        refine WC.condD rfl (fun g32 => ?_) (fun g32 => ?_)
        · refine WC.skip ?_
          refine WC.seq ?_
          refine WC.block ?_
          refine WC.seq ?_
          have hkl2 : k2 < xs.length - k := by have := g32; omega
          obtain ⟨y2, hy2⟩ : ∃ y, xs[k + k2]? = some y := ⟨_, List.getElem?_eq_getElem (by omega)⟩
          obtain ⟨z2, hz2⟩ : ∃ y, xs[k + k2 - 1]? = some y := ⟨_, List.getElem?_eq_getElem (by omega)⟩
          have hzy : zs[k + k2]? = some y2 := by rw [hS.tail _ (by omega), hy2]
          have hzz : zs[k + (k2 - 1)]? = some z2 := by rw [show k + (k2 - 1) = k + k2 - 1 by omega, hS.tail _ (by omega), hz2]
          refine WC.drawRead mixed (by kernel_rfl) ?_
          refine WH.y (Yl.move rfl) rfl ?_
          refine WH.y (Yl.move rfl) rfl ?_
          refine WH.y (Yl.index un65 sz22 rfl rfl (Reads.of hsub (by repeat (first | exact Take1.head | apply Take1.tail))) rfl (by omega)) rfl ?_
          refine WH.y (Yl.loadE (j := k2) on22 rfl (Reads.of hsub (by repeat (first | exact Take1.head | apply Take1.tail))) (u := .int .u16 y2) (by simp [ints, hzy])) rfl ?_
          refine WH.y (Yl.move rfl) rfl ?_
          refine WH.y (Yl.move rfl) rfl ?_
          refine WH.y (Yl.sub rfl rfl (IntWalk.i64_in _ (by omega))) rfl ?_
          refine WH.say (t := 41) (v' := .int .i64 ((k2 - 1 : Nat) : Int)) rfl (by (refine congrArg _ ?_; omega)) ?_
          refine WH.y (Yl.index un65 sz22 rfl rfl (Reads.of hsub (by repeat (first | exact Take1.head | apply Take1.tail))) rfl (by omega)) rfl ?_
          refine WH.y (Yl.loadE (j := k2 - 1) on22 rfl (Reads.of hsub (by repeat (first | exact Take1.head | apply Take1.tail))) (u := .int .u16 z2) (by simp [ints, hzz])) rfl ?_
          refine WH.y (Yl.neq rfl rfl) rfl ?_
          refine WH.nil ?_
          refine WC.condD rfl (fun g44 => ?_) (fun g44 => ?_)
          · refine WC.seq ?_
            refine WC.region ?_
            refine WL.y (Yl.move rfl) rfl ?_
            refine WL.y (Yl.move rfl) rfl ?_
            refine WL.y (Yl.move rfl) rfl ?_
            refine WL.y (Yl.move rfl) rfl ?_
            refine WL.y (Yl.index un65 sz22 rfl rfl (Reads.of hsub (by repeat (first | exact Take1.head | apply Take1.tail))) rfl (by omega)) rfl ?_
            refine WL.y (Yl.loadE (j := k2) on22 rfl (Reads.of hsub (by repeat (first | exact Take1.head | apply Take1.tail))) (u := .int .u16 y2) (by simp [ints, hzy])) rfl ?_
            refine WL.y (Yl.index un65 sz22 rfl rfl (Reads.of (r := ownR (.slice ao xs.length cap) 22 1 xs.length (ints .u16 zs)) RdOf.own (by repeat (first | exact Take1.head | apply Take1.tail))) rfl (by omega)) rfl ?_
            refine WL.sto (Sto.elem (j := q) (cs' := ints .u16 (zs.set q y2)) sz22 rfl rfl (by repeat (first | exact Take1.head | apply Take1.tail)) rfl (by omega) (by simp [ints, List.map_set])) (fun _ h => nomatch h) ?_
            refine WL.nil ?_
            refine WC.region ?_
            refine WL.y (Yl.move rfl) rfl ?_
            refine WL.y (Yl.add rfl rfl (IntWalk.i64_in _ (by omega))) rfl ?_
            refine WL.y (Yl.assign rfl) rfl ?_
            refine WL.nil ?_
            refine WC.region ?_
            refine WL.y (Yl.move rfl) rfl ?_
            refine WL.y (Yl.add rfl rfl (IntWalk.i64_in _ (by omega))) rfl ?_
            refine WL.y (Yl.assign rfl) rfl ?_
            refine WL.nil ?_
            exact ⟨rfl, (zs.set q y2, q + 1, k2 + 1), ⟨hS.put hy2, by dsimp only; omega⟩, by dsimp only; omega, (by repeat (first | exact Sub.nil | refine Sub.cons rfl ?_)), _, (by repeat (first | exact TakeL.nil | (apply TakeL.cons; · repeat (first | exact Take1.head | apply Take1.tail))))⟩
          · refine WC.skip ?_
            refine WC.region ?_
            refine WL.y (Yl.move rfl) rfl ?_
            refine WL.y (Yl.add rfl rfl (IntWalk.i64_in _ (by omega))) rfl ?_
            refine WL.y (Yl.assign rfl) rfl ?_
            refine WL.nil ?_
            have e : y2 = z2 := by have := g44; omega
            subst e
            exact ⟨rfl, (zs, q, k2 + 1), ⟨hS.same hy2 hz2, by dsimp only; omega⟩, by dsimp only; omega, (by repeat (first | exact Sub.nil | refine Sub.cons rfl ?_)), _, (by repeat (first | exact TakeL.nil | (apply TakeL.cons; · repeat (first | exact Take1.head | apply Take1.tail))))⟩
        · refine WC.exit ?_
          refine WC.seq ?_
          refine WC.region ?_
          refine WL.y (Yl.move rfl) rfl ?_
          refine WL.y (Yl.move rfl) rfl ?_
          refine WL.y (Yl.slice un65 sz22 rfl ⟨_, rfl⟩ rfl (by omega) (by omega)) rfl ?_
          refine WL.eff (Eff.clear sl65 (n := xs.length) (i := q) (cs' := ints .u16 (zs.take q)) (by simp [Value.cells]; rfl) rfl (by repeat (first | exact Take1.head | apply Take1.tail)) (by omega) (by rw [Nat.mul_one, ints_take])) ?_
          refine WL.nil ?_
          refine WC.seq ?_
          refine WC.region ?_
          refine WL.y (Yl.move rfl) rfl ?_
          refine WL.y (Yl.move rfl) rfl ?_
          refine WL.y (Yl.slice (l := 0) (h := q) un65 sz22 rfl rfl ⟨_, rfl⟩ (by omega) (by omega)) rfl ?_
          refine WL.y (Yl.assign rfl) rfl ?_
          refine WL.nil ?_
          refine WC.ret ?_
          repeat (first | (with_reducible refine peelT ?_) | (with_reducible refine peelB ?_) | (with_reducible refine peelTX ?_) | (with_reducible refine peelBX ?_) | (with_reducible refine peelBN ?_) | (with_reducible refine peelBO rfl ?_))
          have hmx : k + k2 = xs.length := by have := g32; omega
          have hm := hS.mem
          rw [hmx, List.take_length] at hm
          have hl2 : (zs.take q).length = q := by rw [List.length_take]; omega
          exact ret1 (.inr rfl) Try.results79 rfl fun w' h => ⟨zs.take q, ⟨hm, by omega⟩, (by rw [sub0, hl2]), by rw [sub0] at h; rw [hl2]; exact h.sub (by repeat (first | exact TakeL.nil | (apply TakeL.cons; · repeat (first | exact Take1.head | apply Take1.tail))))⟩
      · refine WC.skip ?_
        refine WC.region ?_
        refine WL.y (Yl.move rfl) rfl ?_
        refine WL.y (Yl.add rfl rfl (IntWalk.i64_in _ (by omega))) rfl ?_
        refine WL.y (Yl.assign rfl) rfl ?_
        refine WL.nil ?_
        exact ⟨rfl, k + 1, ⟨by omega, by omega⟩, by omega, (by repeat (first | exact Sub.nil | refine Sub.cons rfl ?_)), _, (by repeat (first | exact TakeL.nil | (apply TakeL.cons; · repeat (first | exact Take1.head | apply Take1.tail))))⟩
    · refine WC.exit ?_
      refine WC.seq ?_
      refine WC.region ?_
      refine WL.y (Yl.move rfl) rfl ?_
      refine WL.y (Yl.assign rfl) rfl ?_
      refine WL.nil ?_
      refine WC.ret ?_
      repeat (first | (with_reducible refine peelT ?_) | (with_reducible refine peelB ?_) | (with_reducible refine peelTX ?_) | (with_reducible refine peelBX ?_) | (with_reducible refine peelBN ?_) | (with_reducible refine peelBO rfl ?_))
      exact ret1 (.inr rfl) Try.results79 rfl fun w' h => ⟨xs, ⟨fun _ => Iff.rfl, Nat.le_refl _⟩, rfl, h.sub (by repeat (first | exact TakeL.nil | (apply TakeL.cons; · repeat (first | exact Take1.head | apply Take1.tail))))⟩
end Go.Proofs.Ytnlibngncicobaa
