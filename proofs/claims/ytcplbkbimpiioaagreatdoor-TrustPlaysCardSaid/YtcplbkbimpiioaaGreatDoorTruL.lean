/- strings.ReplaceAll and strings.Join, by the shelf of the library. -/
import Derived.Test.YtcplbkbimpiioaaGreatDoorLibSt
import Derived.Test.YtcplbkbimpiioaaGreatDoorFacts
import Derived.Test.YtcplbkbimpiioaaGreatDoorLibX
import Derived.Shelf.Strings.Replace
import Derived.Shelf.Strings.OnBuilder
namespace Go.Proofs.YtcplbkbimpiioaaGreatDoor
open Go Go.RowKit Go.Shelf
def rho155 : Ren := ⟨fun n => match n with | 155 => 29 | 154 => 63 | 138 => 84 | 165 => 72 | 143 => 85 | 166 => 73 | 197 => 86 | 169 => 66 | 195 => 112 | 218 => 113 | 240 => 89 | 241 => 98 | 219 => 114 | 260 => 115 | 276 => 119 | 277 => 121 | 217 => 127 | 225 => 128 | 224 => 129 | 267 => 130 | 266 => 135 | 314 => 136 | n => n, fun n => match n with | 9 => 9 | 3 => 3 | 4 => 4 | 72 => 121 | 0 => 0 | 76 => 133 | 105 => 148 | 21 => 21 | 5 => 5 | 70 => 119 | 20 => 20 | 37 => 54 | 75 => 125 | 127 => 154 | 164 => 182 | 46 => 123 | 119 => 191 | 139 => 194 | 138 => 193 | 146 => 201 | 51 => 172 | 80 => 127 | n => n, fun n => match n with | 1 => 0 | 3 => 1 | 4 => 2 | n => n⟩
def rho156 : Ren := ⟨fun n => match n with | 156 => 36 | 165 => 72 | 166 => 73 | 169 => 66 | 240 => 89 | 241 => 98 | 276 => 119 | 277 => 121 | n => n, fun n => match n with | 31 => 80 | 9 => 9 | 3 => 3 | 4 => 4 | 0 => 0 | 20 => 20 | 72 => 121 | 76 => 133 | 70 => 119 | 37 => 54 | 75 => 125 | 127 => 154 | 164 => 182 | 5 => 5 | 80 => 127 | n => n, fun n => n⟩
set_option maxRecDepth 1000000 in
theorem lays155 : Lays.n155 Tryz.prog rho155 := by
  constructor <;> first | exact mixed | kernel_rfl | (intro w; kernel_rfl)
set_option maxRecDepth 1000000 in
theorem lays156 : Lays.n156 Tryz.prog rho156 := by
  constructor <;> first | exact mixed | kernel_rfl | (intro w; kernel_rfl)
theorem ext155 : Builder.Extra Tryz.prog rho155 where
  sizeBuilder := by kernel_rfl
  liesBuilder := by kernel_rfl
  t5 := by kernel_rfl
  a5 := fun w => by kernel_rfl
  z5 := fun w => by kernel_rfl
  v5 := fun w => by kernel_rfl
  infoByte := by kernel_rfl
  cellsByte := by kernel_rfl
  sizeByte := by kernel_rfl
  neB5 := by decide
theorem ext156 : Builder.Extra Tryz.prog rho156 where
  sizeBuilder := by kernel_rfl
  liesBuilder := by kernel_rfl
  t5 := by kernel_rfl
  a5 := fun w => by kernel_rfl
  z5 := fun w => by kernel_rfl
  v5 := fun w => by kernel_rfl
  infoByte := by kernel_rfl
  cellsByte := by kernel_rfl
  sizeByte := by kernel_rfl
  neB5 := by decide
/-- What is left without blanks. -/
def bareF (bs : List Int) : List Int := bs.filter (fun x => decide (x ≠ 32))
def bareB (s : List UInt8) : List UInt8 := s.filter (fun x => decide (x ≠ 32))
theorem replaceK_all : ∀ (k : Nat) (s : List UInt8), Lib.count s [32] = k → Lib.replaceK [32] [] k s = bareB s
  | 0, s, h => by
    rw [Lib.replaceK]
    induction s with
    | nil => rfl
    | cons b l ih =>
      have hb : b ≠ 32 := by
        rintro rfl
        rw [Lib.count_cons_eq] at h
        omega
      rw [Lib.count_cons_ne _ _ _ hb] at h
      unfold bareB at ih ⊢
      rw [List.filter_cons_of_pos (by simpa using hb), ← ih h]
  | k + 1, s, h => by
    induction s with
    | nil => rw [show Lib.count [] [32] = 0 from rfl] at h; omega
    | cons b l ih =>
      by_cases hb : b = 32
      · subst hb
        rw [Lib.count_cons_eq] at h
        have hi : Lib.index (32 :: l) [32] = (0 : Nat) := rfl
        rw [Lib.replaceK_hit _ _ _ _ 0 hi]
        simp only [List.take_zero, List.nil_append, List.length_cons, List.length_nil, Nat.zero_add, List.drop_succ_cons, List.drop_zero]
        rw [replaceK_all k l (by omega)]
        unfold bareB
        rw [List.filter_cons_of_neg (by simp)]
      · rw [Lib.count_cons_ne _ _ _ hb] at h
        have hl := ih h
        obtain ⟨i, hi⟩ := Lib.index_of_count (s := l) (old := [32]) (by omega)
        rw [Lib.replaceK_hit _ _ _ _ i hi] at hl
        have hi2 : Lib.index (b :: l) [32] = ((i + 1 : Nat) : Int) := by
          show (if [32].isPrefixOf (b :: l) then (0 : Int) else if Lib.index l [32] == -1 then -1 else Lib.index l [32] + 1) = _
          rw [if_neg (by simpa [List.isPrefixOf] using fun e => hb e.symm), hi, if_neg (by simp), Int.natCast_succ]
        rw [Lib.replaceK_hit _ _ _ _ (i + 1) hi2]
        unfold bareB at hl ⊢
        rw [List.filter_cons_of_pos (by simpa using hb), ← hl]
        simp [Nat.add_right_comm]
theorem replaceAll_bare (s : List UInt8) : Lib.replaceAll s [32] [] = bareB s := by
  unfold Lib.replaceAll Lib.replace
  rw [if_neg (by decide)]
  have e : Lib.replaceNum s [32] (-1) = Lib.count s [32] := by unfold Lib.replaceNum; rw [if_pos (.inl (by decide))]
  rw [e]
  exact replaceK_all _ s rfl
theorem bareB_of {bs : List Int} (h : Bytes bs) : bareB (bs.map fun n => UInt8.ofNat n.toNat) = (bareF bs).map fun n => UInt8.ofNat n.toNat := by
  unfold bareB bareF
  rw [List.filter_map]
  congr 1
  refine List.filter_congr fun x hx => ?_
  have := h x hx
  show decide (UInt8.ofNat x.toNat ≠ 32) = decide (x ≠ 32)
  rw [decide_eq_decide]
  constructor
  · rintro h1 rfl
    exact h1 rfl
  · intro h1 h2
    have h3 := congrArg UInt8.toNat h2
    rw [UInt8.toNat_ofNat', Nat.mod_eq_of_lt (by omega)] at h3
    exact h1 (by have : (32 : UInt8).toNat = 32 := rfl; omega)
theorem ok_of_below {w w' : World} (h : Below w.heap.size w w') : OK w (fpL []) [] w' :=
  ⟨⟨h.os, h.tape, h.output, h.size, fun k hk _ => h.block k hk⟩, (fun _ h => nomatch h), (fun _ h => nomatch h), (fun _ h => nomatch h), List.Pairwise.nil⟩
abbrev mxV : Value := .slice (some ⟨0, 0, none⟩) 1 1
theorem replace_any (bs : List Int) (hB : Bytes bs) (hl : bs.length ≤ 1000000) (m : Int) (w : World) (hm : RdS w (fpL []) mxV 1 1 [.int .i64 m]) (hw : OK w (fpL []) [] w) :
    Fn Tryz.prog 29 [.string (strOfNums bs), .string ⟨#[32]⟩, .string ⟨#[]⟩] [] w (fun _ : Unit => True) (fun _ => .string (strOfNums (bareF bs))) (fun _ => []) := by
  have hc : w.cell? ⟨0, 0, none⟩ = some (.int .i64 m) := by
    rcases hm.rd.2 with ⟨h, _⟩ | ⟨a, cap, h, _, _, h3⟩
    · cases h
    · cases h
      have := (h3 0 _ rfl).2
      simpa [Addr.add] using this
  have h := Any.strings_ReplaceAll lays155 ext155 (strOfNums bs) ⟨#[32]⟩ ⟨#[]⟩ m w (by rw [strOfNums_size]; omega) hc (by decide) (by
    rw [strOfNums_size]
    show bs.length + _ * 0 ≤ _
    omega)
  refine Calls.mono h ?_
  rintro e w' ⟨rfl, hb⟩
  refine ⟨(), trivial, ?_, ok_of_below hb⟩
  rw [strOfNums_data, replaceAll_bare, bareB_of hB]
  rfl
/-- Parts, a blank between any two. -/
def joinB : List (List Int) → List Int
  | [] => []
  | [x] => x
  | x :: y :: l => x ++ 32 :: joinB (y :: l)
theorem join_joinB : ∀ l : List (List Int), Lib.join (l.map fun bs => bs.map fun n => UInt8.ofNat n.toNat) [32] = (joinB l).map fun n => UInt8.ofNat n.toNat
  | [] => rfl
  | [x] => by simp [Lib.join, joinB]
  | x :: y :: l => by
    have ih := join_joinB (y :: l)
    unfold Lib.join at ih ⊢
    rw [joinB, List.map_append, show List.map (fun n : Int => UInt8.ofNat n.toNat) (32 :: joinB (y :: l)) = 32 :: List.map (fun n : Int => UInt8.ofNat n.toNat) (joinB (y :: l)) from rfl, ← ih]
    simp [List.intercalate, List.intersperse]
theorem join_any (ao : Addr) (cap : Nat) (ls : List (List Int)) (hl : ls.length ≤ 100000) (hj : (joinB ls).length ≤ 1000000) (w : World) (hx : RdS w (fpL []) (.slice (some ao) ls.length cap) 1 ls.length (ls.map fun bs => .string (strOfNums bs))) (hw : OK w (fpL []) [] w) :
    Fn Tryz.prog 36 [.slice (some ao) ls.length cap, .string ⟨#[32]⟩] [] w (fun _ : Unit => True) (fun _ => .string (strOfNums (joinB ls))) (fun _ => []) := by
  obtain ⟨b, o, sp⟩ := ao
  rcases hx.rd.2 with ⟨h, _⟩ | ⟨a, cap', h, h1, h2, h3⟩
  · cases h
  · cases h
    by_cases h0 : ls = []
    · subst h0
      refine Calls.mono (Any.strings_Join_none lays156 ext156 (some ⟨b, o, sp⟩) cap ⟨#[32]⟩ w) ?_
      rintro e w' ⟨rfl, rfl⟩
      exact ⟨(), trivial, rfl, hw⟩
    · have hp : 0 < ls.length := List.length_pos_iff.2 h0
      have hc : ∀ (j : Nat) x, (ls.map strOfNums)[j]? = some x → (⟨b, o, sp⟩ : Addr).spot = none ∧ w.cell? ⟨b, o + j, none⟩ = some (.string x) := by
        intro j x hj
        rw [List.getElem?_map] at hj
        obtain ⟨bs, hb, rfl⟩ := Option.map_eq_some_iff.1 hj
        obtain ⟨e1, e2⟩ := h3 j (.string (strOfNums bs)) (by rw [List.getElem?_map, hb]; rfl)
        cases e1
        refine ⟨rfl, ?_⟩
        rw [← e2]
      obtain ⟨x0, hx0⟩ : ∃ x, (ls.map strOfNums)[0]? = some x := ⟨_, List.getElem?_eq_getElem (by rw [List.length_map]; exact hp)⟩
      obtain ⟨hsp, hc0⟩ := hc 0 x0 hx0
      obtain rfl : sp = none := hsp
      have hm : (ls.map strOfNums).map (fun s => s.data.toList) = ls.map fun bs => bs.map fun n => UInt8.ofNat n.toNat := by rw [List.map_map]; rfl
      have hlen : (Lib.join ((ls.map strOfNums).map (fun s => s.data.toList)) [32]).length ≤ 140737488355328 := by rw [hm, join_joinB, List.length_map]; omega
      have h := Any.strings_Join lays156 ext156 b o cap (ls.map strOfNums) ⟨#[32]⟩ w (fun j x hj => (hc j x hj).2) (World.block_lt_of_cell? _ _ hc0) (by rw [List.length_map]; omega) (by rw [List.length_map]; exact h1) hlen
      rw [List.length_map] at h
      refine Calls.mono h ?_
      rintro e w' ⟨rfl, hb⟩
      refine ⟨(), trivial, ?_, ok_of_below hb⟩
      rw [hm, show (⟨#[32]⟩ : ByteArray).data.toList = [32] from rfl, join_joinB]
      rfl
end Go.Proofs.YtcplbkbimpiioaaGreatDoor
