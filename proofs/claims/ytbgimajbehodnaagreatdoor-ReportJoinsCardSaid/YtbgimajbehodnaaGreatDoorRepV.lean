/- Decimal numerals: plain laws. -/
import Derived.Test.YtbgimajbehodnaaGreatDoorLibN
import Derived.Lib.ItoaNum
import Derived.Lib.ParseIntB
import Derived.Test.YtbgimajbehodnaaGreatDoorLibSt
import Derived.Test.YtbgimajbehodnaaGreatDoorFacts
import Derived.Test.YtbgimajbehodnaaGreatDoorLibX
import Derived.Shelf.Strconv.Itoa3
namespace Go.Proofs.YtbgimajbehodnaaGreatDoor
open Go Go.RowKit
/-- The digits of a number, as numbers. -/
def decI (u : Nat) : List Int := (Lib.decDigits u).map fun b => (b.toNat : Int)
def DigI (l : List Int) : Prop := ∀ x ∈ l, 48 ≤ x ∧ x ≤ 57
def valI (l : List Int) : Nat := l.foldl (fun n x => 10 * n + (x - 48).toNat) 0
theorem valI_snoc (l : List Int) (x : Int) : valI (l ++ [x]) = 10 * valI l + (x - 48).toNat := by simp [valI]
theorem decI_small {u : Nat} (h : u < 10) : decI u = [48 + (u : Int)] := by
  unfold decI
  rw [Lib.decDigits_one h, List.map_singleton, UInt8.toNat_ofNat', Nat.mod_eq_of_lt (by omega)]
  simp
theorem decI_big {u : Nat} (h : ¬ u < 10) : decI u = decI (u / 10) ++ [48 + ((u % 10 : Nat) : Int)] := by
  unfold decI
  conv => lhs; rw [Lib.decDigits, dif_neg h]
  rw [List.map_append, List.map_singleton, UInt8.toNat_ofNat', Nat.mod_eq_of_lt (by omega)]
  simp
theorem decI_dig (u : Nat) : DigI (decI u) := by
  induction u using Nat.strongRecOn with
  | _ u ih =>
    by_cases h : u < 10
    · rw [decI_small h]
      intro x hx
      rw [List.mem_singleton] at hx
      omega
    · rw [decI_big h]
      intro x hx
      rcases List.mem_append.1 hx with hx | hx
      · exact ih (u / 10) (by omega) x hx
      · rw [List.mem_singleton] at hx
        omega
theorem decI_ne (u : Nat) : decI u ≠ [] := by
  by_cases h : u < 10
  · rw [decI_small h]; simp
  · rw [decI_big h]; simp
theorem decI_val (u : Nat) : valI (decI u) = u := by
  induction u using Nat.strongRecOn with
  | _ u ih =>
    by_cases h : u < 10
    · rw [decI_small h]
      show 10 * 0 + (48 + (u : Int) - 48).toNat = u
      omega
    · rw [decI_big h, valI_snoc, ih (u / 10) (by omega)]
      omega
theorem decI_inj {u v : Nat} (h : decI u = decI v) : u = v := by rw [← decI_val u, ← decI_val v, h]
/-! ### What ParseUint makes of it -/
theorem parse_app (M : Nat) : ∀ (l r : List UInt8) (acc : Nat), Lib.parseUintM M acc (l ++ r) = match Lib.parseUintM M acc l with
    | .ok a => Lib.parseUintM M a r
    | .syntax => .syntax
    | .range => .range
  | [], r, acc => rfl
  | c :: l, r, acc => by
    rw [List.cons_append]
    have e1 : ∀ t, Lib.parseUintM M acc (c :: t) = if 48 ≤ c.toNat ∧ c.toNat ≤ 57 then (if 1844674407370955162 ≤ acc then .range else if M < acc * 10 + (c.toNat - 48) then .range else Lib.parseUintM M (acc * 10 + (c.toNat - 48)) t) else .syntax := fun t => rfl
    rw [e1, e1]
    split
    · split
      · rfl
      · split
        · rfl
        · exact parse_app M l r _
    · rfl
theorem parse_dec {M : Nat} (hM : M ≤ 18446744073709551615) (u : Nat) (hu : u ≤ M) : Lib.parseUintM M 0 (Lib.decDigits u) = .ok u := by
  induction u using Nat.strongRecOn with
  | _ u ih =>
    by_cases h : u < 10
    · rw [Lib.decDigits_one h]
      unfold Lib.parseUintM
      rw [UInt8.toNat_ofNat', Nat.mod_eq_of_lt (by omega), if_pos (by omega), if_neg (by omega), if_neg (by omega)]
      show Lib.NumEnd.ok _ = _
      congr 1
      omega
    · rw [Lib.decDigits, dif_neg h, parse_app, ih (u / 10) (by omega) (by omega)]
      show Lib.parseUintM M (u / 10) [UInt8.ofNat (48 + u % 10)] = _
      unfold Lib.parseUintM
      rw [UInt8.toNat_ofNat', Nat.mod_eq_of_lt (by omega), if_pos (by omega), if_neg (by omega), if_neg (by omega)]
      show Lib.NumEnd.ok _ = _
      congr 1
      omega
theorem decDigits_ne (u : Nat) : Lib.decDigits u ≠ [] := fun h => decI_ne u (by unfold decI; rw [h]; rfl)
theorem parseB_dec {B : Nat} (hB : 2 ^ B ≤ 18446744073709551616) (u : Nat) (hu : u < 2 ^ B) : Lib.parseUintB B (Lib.decDigits u) = .ok u := by
  unfold Lib.parseUintB
  rw [if_neg (decDigits_ne u), parse_dec (by omega) u (by omega)]
end Go.Proofs.YtbgimajbehodnaaGreatDoor

namespace Go.Proofs.YtbgimajbehodnaaGreatDoor
open Go Go.RowKit Go.Shelf
def rho283 : Ren := ⟨fun n => match n with | 283 => 121 | n => n, fun n => match n with | 3 => 3 | 9 => 9 | 4 => 4 | n => n, fun n => n⟩
def rho285 : Ren := ⟨fun n => match n with | 285 => 123 | n => n, fun n => match n with | 37 => 62 | 53 => 34 | 3 => 3 | 4 => 4 | 51 => 24 | 9 => 9 | 5 => 5 | 0 => 0 | n => n, fun n => n⟩
def rho284 : Ren := ⟨fun n => match n with | 284 => 122 | 129 => 142 | 317 => 149 | 318 => 150 | n => n, fun n => match n with | 53 => 34 | 3 => 3 | 212 => 212 | 0 => 0 | 4 => 4 | 46 => 180 | 5 => 5 | 9 => 9 | n => n, fun n => match n with | 17 => 0 | n => n⟩
def rho171 : Ren := ⟨fun n => match n with | 171 => 61 | 243 => 98 | 246 => 120 | 283 => 121 | 284 => 122 | 285 => 123 | 286 => 124 | 129 => 142 | 317 => 149 | 318 => 150 | 319 => 151 | 320 => 152 | 337 => 189 | 338 => 190 | n => n, fun n => match n with | 3 => 3 | 9 => 9 | 2 => 2 | 4 => 4 | 171 => 187 | 0 => 0 | 53 => 34 | 37 => 62 | 5 => 5 | 173 => 190 | 212 => 212 | 51 => 24 | 20 => 20 | 213 => 213 | 46 => 180 | 232 => 251 | 233 => 252 | n => n, fun n => match n with | 17 => 0 | 18 => 4 | 19 => 5 | n => n⟩
set_option maxRecDepth 1000000 in
theorem lays283 : Lays.n283 Tryz.prog rho283 := by
  constructor <;> first | exact mixed | kernel_rfl | (intro w; kernel_rfl)
set_option maxRecDepth 1000000 in
theorem lays285 : Lays.n285 Tryz.prog rho285 := by
  constructor <;> first | exact mixed | kernel_rfl | (intro w; kernel_rfl)
set_option maxRecDepth 1000000 in
theorem lays284s : Lays.n284 Tryz.prog rho284 := by
  constructor <;> first | exact mixed | kernel_rfl | (intro w; kernel_rfl)
theorem lays284 : LaysM.n284 Tryz.prog rho284 := by
  constructor <;> first | exact lays284s | kernel_rfl
set_option maxRecDepth 1000000 in
theorem lays171s : Lays.n171 Tryz.prog rho171 := by
  constructor <;> first | exact mixed | kernel_rfl | (intro w; kernel_rfl)
theorem lays171 : LaysM.n171 Tryz.prog rho171 := by
  constructor <;> first | exact lays171s | kernel_rfl
/-- What the library's variables hold. -/
structure Gl (w : World) : Prop where
  tab : Lib.TabIs Tryz.prog w "internal/strconv.uint64pow10" .u64 Lib.pow10Tab
  syn : ∃ ev : Value, w.var? Tryz.prog "strconv.ErrSyntax" = some #[ev] ∧ (ev = .nilIface ∨ ∃ te pe, ev = .iface te pe)
  rng : ∃ ev : Value, w.var? Tryz.prog "strconv.ErrRange" = some #[ev] ∧ (ev = .nilIface ∨ ∃ te pe, ev = .iface te pe)
  max : ∃ m : Int, w.var? Tryz.prog "internal/bytealg.MaxLen" = some #[.int .i64 m]
def GlS (w : World) (T : Pm) : Prop := ∀ w', Chg T.wr w w' → Gl w'
theorem OK.srcG {P : Program} {ro : Option Nat} {n : Nat} {w0 : World} {S : Pm} {A F : List Res} {w : World} (hw : OK (Cx.mk P ro n w0 S).w0 (Cx.mk P ro n w0 S).S (A ++ F) w) (h : GlS w0 S) : GlS w (fpL A) := fun w' hc =>
  h w' (hw.chg.trans' hc (fun _ _ e => e) (by
    rintro i hi ⟨s, hs, hsk⟩
    exact hw.loc s (List.mem_append_left _ hs) i hsk hi))
theorem dec_str (u : Nat) : (⟨(Lib.decDigits u).toArray⟩ : ByteArray) = strOfNums (decI u) := by
  unfold strOfNums decI
  congr 1
  rw [List.map_map]
  congr 1
  conv => lhs; rw [← List.map_id (Lib.decDigits u)]
  refine List.map_congr_left fun b _ => ?_
  simp
theorem ok_same {w : World} : OK w (fpL []) [] w := ⟨Chg.refl _ _, (fun _ h => nomatch h), (fun _ h => nomatch h), (fun _ h => nomatch h), List.Pairwise.nil⟩
theorem ok_chg {w w' : World} (h : Chg noB w w') : OK w (fpL []) [] w' := ⟨h.mono (fun _ _ h => h.elim), (fun _ h => nomatch h), (fun _ h => nomatch h), (fun _ h => nomatch h), List.Pairwise.nil⟩
theorem chg_grow (w : World) (k : Nat) (os : Array Obj) : Chg noB w (Go.Sort.grow (w.drewN k) os) :=
  (Chg.drewN noB w k).trans ⟨rfl, rfl, rfl, by simp [Go.Sort.grow], fun i hi _ => (Array.getElem?_append_left hi : (w.heap ++ os)[i]? = w.heap[i]?)⟩
theorem en121 : ∀ args w, (callFunc 121 args).run Tryz.prog w = .ok (.enter 121 args) w := enters Tryz.func121 (by kernel_rfl) rfl
theorem en122 : ∀ args w, (callFunc 122 args).run Tryz.prog w = .ok (.enter 122 args) w := enters Tryz.func122 (by kernel_rfl) rfl
theorem en123 : ∀ args w, (callFunc 123 args).run Tryz.prog w = .ok (.enter 123 args) w := enters Tryz.func123 (by kernel_rfl) rfl
theorem en99 : ∀ args w, (callFunc 99 args).run Tryz.prog w = .ok (.enter 99 args) w := enters Tryz.func99 (by kernel_rfl) rfl
theorem small_any (u : Nat) (hu : u < 100) (w : World) : Fn Tryz.prog 121 [.int .i64 (u : Int)] [] w (fun _ : Unit => True) (fun _ => .string (strOfNums (decI u))) (fun _ => []) := by
  refine Calls.mono (Any.internal_strconv_small lays283 u hu w) ?_
  rintro e w' ⟨rfl, rfl⟩
  exact ⟨(), trivial, by rw [dec_str], ok_same⟩
theorem num_any (u : Nat) (h1 : 1 ≤ u) (hu : u < 18446744073709551616) (w : World) (hg : GlS w (fpL [])) : Fn Tryz.prog 122 [.int .u64 (u : Int)] [] w (fun _ : Unit => True) (fun _ => .int .i64 (Lib.nDigits u : Int)) (fun _ => []) := by
  refine Calls.mono (Any.internal_strconv_numDigits lays284 u h1 hu w (hg w (Chg.refl _ _)).tab) ?_
  rintro e w' ⟨rfl, rfl⟩
  exact ⟨(), trivial, rfl, ok_same⟩
theorem itoa_any (u : Nat) (hu : u ≤ 9223372036854775807) (w : World) (hg : GlS w (fpL [])) : Fn Tryz.prog 61 [.int .i64 (u : Int)] [] w (fun _ : Unit => True) (fun _ => .string (strOfNums (decI u))) (fun _ => []) := by
  refine Calls.mono (Any.strconv_Itoa lays171 (u : Int) (by omega) (by omega) w (hg w (Chg.refl _ _)).tab) ?_
  rintro e w' ⟨rfl, k, os, rfl⟩
  exact ⟨(), trivial, by rw [Lib.itoa_nonneg, dec_str], ok_chg (chg_grow w k os)⟩
theorem format10_any (b : Nat) (T : TypeId) (u : Nat) (hk : Lib.nDigits u ≤ 24) (hu : u < 18446744073709551616) (w : World) (hw : OK w (fpL [blkR b T (ints .u8 (List.replicate 24 0))]) [blkR b T (ints .u8 (List.replicate 24 0))] w) :
    Fn Tryz.prog 123 [.slice (some ⟨b, 0, none⟩) (Lib.nDigits u) 24, .int .u64 (u : Int)] [blkR b T (ints .u8 (List.replicate 24 0))] w (fun _ : Unit => True) (fun _ => .tuple #[]) (fun _ => [blkR b T (ints .u8 (decI u ++ List.replicate (24 - Lib.nDigits u) 0))]) := by
  obtain ⟨Z, hZ⟩ : ∃ Z : List Int, Z = List.replicate 24 0 := ⟨_, rfl⟩
  have hZat : ∀ i, (ints .u8 Z)[i]? = if i < 24 then some (.int .u8 0) else none := fun i => by
    unfold ints
    rw [hZ, List.getElem?_map, List.getElem?_replicate]
    split <;> rfl
  rw [← hZ] at hw ⊢
  have hb : w.heap[b]? = some (.cells (ints .u8 Z).toArray T (0, 0)) := hw.get .head
  have hz : (Array.replicate (Lib.nDigits u) (0 : UInt8)).size = Lib.nDigits u := Array.size_replicate
  have hH : Go.Sort.Holds (fun (b : UInt8) => Value.int .u8 (b.toNat : Int)) w b 0 (Array.replicate (Lib.nDigits u) (0 : UInt8)) := fun j hj => by
    rw [hz] at hj
    refine ⟨?_, ?_⟩
    · have e0 : (Array.replicate (Lib.nDigits u) (0 : UInt8))[j]! = 0 := by rw [getElem!_pos _ j (by rw [hz]; exact hj)]; simp
      rw [e0]
      simp only [World.cell?, hb, Nat.zero_add]
      rw [if_neg (by decide), List.getElem?_toArray, hZat, if_pos (by omega)]
      rfl
    · simp [World.frozen?, hb]
  have h := Any.internal_strconv_formatBase10 lays285 b 0 24 u (Array.replicate (Lib.nDigits u) 0) w hH (by rw [hz]; exact Lib.lt_pow_nDigits u) hu (by rw [hz]; omega)
  rw [hz] at h
  refine Calls.mono h ?_
  rintro e w' ⟨rfl, n, v', dk, rfl, hF⟩
  have hds := hF.size
  have hdl := Lib.decDigits_length u
  refine ⟨(), trivial, rfl, ?_⟩
  have hch : Chg (oneB b) w (Go.Sort.putRow (fun (b : UInt8) => Value.int .u8 (b.toNat : Int)) w b 0 dk) :=
    ⟨rfl, rfl, rfl, by simp [Go.Sort.putRow, Go.Sort.mapBlock], fun i hi hn => by simp [Go.Sort.putRow, Go.Sort.mapBlock, Array.getElem?_modify, show ¬ b = i from fun e => hn e.symm]⟩
  refine hw.turnG (r' := blkR b T (ints .u8 (decI u ++ List.replicate (24 - Lib.nDigits u) 0))) .head ((hch.trans (Chg.drewN _ _ n)).mono fun i _ e => e.symm) ?_ (fun _ h => .inl h) (fun _ h => .inl h)
  show (Go.Sort.putRow (fun (b : UInt8) => Value.int .u8 (b.toNat : Int)) w b 0 dk).heap[b]? = _
  simp only [Go.Sort.putRow, Go.Sort.mapBlock, Array.getElem?_modify, hb, if_true, Option.map_some, Go.Sort.onCells]
  congr 2
  apply Array.ext_getElem?
  intro i
  unfold Go.Sort.putCells
  rw [Array.getElem?_mapIdx, List.getElem?_toArray, List.getElem?_toArray, hZat]
  simp only [Nat.zero_le, true_and, Nat.zero_add, Nat.sub_zero, hds]
  have hdi : (decI u).length = Lib.nDigits u := by unfold decI; rw [List.length_map, hdl]
  unfold ints
  rw [List.map_append]
  by_cases h1 : i < Lib.nDigits u
  · have h2 : i < (Lib.decDigits u).length := by rw [hdl]; exact h1
    have h3 := Lib.row_is_numeral hF i h2
    rw [if_pos (by omega), List.getElem?_append_left (by rw [List.length_map, hdi]; exact h1)]
    unfold decI
    rw [List.getElem?_map, List.getElem?_map, List.getElem?_eq_getElem h2, h3, Option.map_some, if_pos h1]
    rfl
  · rw [List.getElem?_append_right (by rw [List.length_map, hdi]; omega), List.length_map, hdi, List.getElem?_map, List.getElem?_replicate]
    by_cases h4 : i < 24
    · rw [if_pos h4, if_pos (by omega), Option.map_some, if_neg h1]; rfl
    · rw [if_neg h4, if_neg (by omega)]; rfl
theorem inFU_any (u : Nat) (hu : u < 18446744073709551616) (w : World) (hg : GlS w (fpL [])) (hw : OK w (fpL []) [] w) : Fn Tryz.prog 99 [.int .u64 (u : Int), .int .i64 10] [] w (fun _ : Unit => True) (fun _ => .string (strOfNums (decI u))) (fun _ => []) := by
  have hdB : Bytes (decI u) := fun x hx => by have := decI_dig u x hx; omega
  have hdi : (decI u).length = Lib.nDigits u := by unfold decI; rw [List.length_map, Lib.decDigits_length]
  refine enterF Tryz.func99 rfl Tryz.ntmps99 rfl hw ?_
  refine WC.seq ?_
  refine WC.region ?_
  refine WL.y (Yl.assign rfl) rfl ?_
  refine WL.nil ?_
  refine WC.seq ?_
  refine WC.seq ?_
  refine WC.region ?_
  refine WL.y (Yl.move rfl) rfl ?_
  refine WL.y (Yl.eql rfl rfl) rfl ?_
  refine WL.know (t := 10) (b' := true) rfl (by first | rfl | (simp; done) | (simp; omega)) ?_
  refine WL.nil ?_
  refine WC.condT rfl (by first | rfl | (simp; done) | (simp; omega)) ?_
  refine WC.seq ?_
  refine WC.seq ?_
  refine WC.region ?_
  refine WL.y (Yl.move rfl) rfl ?_
  refine WL.y (Yl.lss rfl rfl) rfl ?_
  refine WL.nil ?_
  refine WC.condD rfl (fun g12 => ?_) (fun g12 => ?_)
  · refine WC.seq ?_
    refine WC.region ?_
    refine WL.y (Yl.move rfl) rfl ?_
    refine WL.y (Yl.conv un34 un3 rfl (IntWalk.i64_in _ (by omega))) rfl ?_
    refine WL.callC (xs := [.tmp 14]) (cap := []) rfl rfl en121 (by repeat' constructor) (fun w hw => small_any u (by omega) w) rfl ?_
    rintro ⟨⟩ -
    refine WL.y (Yl.assign rfl) rfl ?_
    refine WL.nil ?_
    refine WC.ret ?_
    repeat (with_reducible (first | refine peelT ?_ | refine peelB ?_ | refine peelTX ?_ | refine peelBX ?_ | refine peelBN ?_ | refine peelBO rfl ?_))
    exact ret1 (.inr rfl) Tryz.results99 rfl fun w' h => ⟨(), trivial, rfl, h.sub (by repeat' constructor)⟩
  · refine WC.skip ?_
    refine WC.seq ?_
    have hu1 : 100 ≤ u := by omega
    have hnd : Lib.nDigits u ≤ 20 := by have := Lib.numDigits_eq u (by omega) hu; split at this <;> omega
    refine WC.region ?_
    refine WL.to (To.alloc (cs := ints .u8 (List.replicate 24 0)) zr187 rfl) rfl ?_
    intro b5
    refine WL.nil ?_
    refine WC.seq ?_
    refine WC.region ?_
    refine WL.y (Yl.move rfl) rfl ?_
    refine WL.callC (xs := [.tmp 16]) (cap := []) rfl rfl en122 (by repeat' constructor) (fun w hw => num_any u (by omega) hu w (hw.srcG hg)) rfl ?_
    rintro ⟨⟩ -
    refine WL.y (Yl.assign rfl) rfl ?_
    refine WL.nil ?_
    refine WC.seq ?_
    refine WC.region ?_
    refine WL.y (Yl.move rfl) rfl ?_
    refine WL.y (Yl.sliceArrH (h := Lib.nDigits u) un187 sz5 (by decide) rfl rfl (by omega)) rfl ?_
    refine WL.y (Yl.move rfl) rfl ?_
    refine WL.callC (xs := [.tmp 19, .tmp 20]) (cap := []) rfl rfl en123 (by repeat' constructor) (fun w hw => format10_any b5 187 u (by omega) hu w hw.left.here) rfl ?_
    rintro ⟨⟩ -
    refine WL.nil ?_
    refine WC.seq ?_
    refine WC.region ?_
    refine WL.y (Yl.move rfl) rfl ?_
    refine WL.y (Yl.sliceArrH (h := Lib.nDigits u) un187 sz5 (by decide) rfl rfl (by omega)) rfl ?_
    refine WL.say (t := 23) (v' := .slice (some ⟨b5, 0, none⟩) (decI u).length 24) rfl (by rw [hdi]) ?_
    refine WL.y (Yl.toStr un62 un5 un9 rfl (Reads.of (RdOf.blk (off := 0) (size := 1) (n := (decI u).length) (cap := 24) (cs := ints .u8 (decI u ++ List.replicate (24 - Lib.nDigits u) 0)) (cs' := ints .u8 (decI u)) (by omega) (by unfold maxLen; omega) (by rw [ints_length, List.length_append, List.length_replicate, hdi]; omega) (by rw [List.drop_zero, Nat.mul_one, ints_take, List.take_left])) (by repeat constructor))) rfl ?_
    refine WL.y (Yl.assign rfl) rfl ?_
    refine WL.nil ?_
    refine WC.ret ?_
    repeat (with_reducible (first | refine peelT ?_ | refine peelB ?_ | refine peelTX ?_ | refine peelBX ?_ | refine peelBN ?_ | refine peelBO rfl ?_))
    exact ret1 (.inr rfl) Tryz.results99 rfl fun w' h => ⟨(), trivial, rfl, h.sub (by repeat' constructor)⟩
theorem formatU_any (u : Nat) (hu : u < 18446744073709551616) (w : World) (hg : GlS w (fpL [])) (hw : OK w (fpL []) [] w) : Fn Tryz.prog 63 [.int .u64 (u : Int), .int .i64 10] [] w (fun _ : Unit => True) (fun _ => .string (strOfNums (decI u))) (fun _ => []) := by
  refine enterF Tryz.func63 rfl Tryz.ntmps63 rfl hw ?_
  refine WC.seq ?_
  refine WC.region ?_
  refine WL.y (Yl.assign rfl) rfl ?_
  refine WL.nil ?_
  refine WC.seq ?_
  refine WC.region ?_
  refine WL.y (Yl.move rfl) rfl ?_
  refine WL.y (Yl.move rfl) rfl ?_
  refine WL.callC (xs := [.tmp 5, .tmp 6]) (cap := []) rfl rfl en99 (by repeat' constructor) (fun w hw => inFU_any u hu w (hw.srcG hg) hw.left.here) rfl ?_
  rintro ⟨⟩ -
  refine WL.y (Yl.assign rfl) rfl ?_
  refine WL.nil ?_
  refine WC.ret ?_
  repeat (with_reducible (first | refine peelT ?_ | refine peelB ?_ | refine peelTX ?_ | refine peelBX ?_ | refine peelBN ?_ | refine peelBO rfl ?_))
  exact ret1 (.inr rfl) Tryz.results63 rfl fun w' h => ⟨(), trivial, rfl, h.sub (by repeat' constructor)⟩
end Go.Proofs.YtbgimajbehodnaaGreatDoor

namespace Go.Proofs.YtbgimajbehodnaaGreatDoor
open Go Go.RowKit
theorem var_same {w w' : World} {D : Nat → Prop} {nm : String} {g : Nat} {v : Array Value} (hg : Tryz.prog.globalNamed nm = some g) (h : w.var? Tryz.prog nm = some v) (hc : Chg D w w') (hd : ¬ D g) : w'.var? Tryz.prog nm = some v := by
  unfold World.var? at h ⊢
  rw [hg] at h ⊢
  simp only [Option.bind_some] at h ⊢
  have hlt : g < w.heap.size := by
    rcases Nat.lt_or_ge g w.heap.size with h' | h'
    · exact h'
    · rw [Array.getElem?_eq_none h'] at h; cases h
  rw [hc.block g hlt hd]
  exact h
theorem gn0 : Tryz.prog.globalNamed "internal/strconv.uint64pow10" = some 0 := by kernel_rfl
theorem gn1 : Tryz.prog.globalNamed "internal/bytealg.MaxLen" = some 1 := by kernel_rfl
theorem gn2 : Tryz.prog.globalNamed "strconv.ErrSyntax" = some 2 := by kernel_rfl
theorem gn3 : Tryz.prog.globalNamed "strconv.ErrRange" = some 3 := by kernel_rfl
theorem Gl.keep {w w' : World} {D : Nat → Prop} (h : Gl w) (hc : Chg D w w') (hd : ∀ k, k < 4 → ¬ D k) : Gl w' where
  tab := var_same gn0 h.tab hc (hd 0 (by decide))
  syn := by obtain ⟨v, e, h2⟩ := h.syn; exact ⟨v, var_same gn2 e hc (hd 2 (by decide)), h2⟩
  rng := by obtain ⟨v, e, h2⟩ := h.rng; exact ⟨v, var_same gn3 e hc (hd 3 (by decide)), h2⟩
  max := by obtain ⟨m, e⟩ := h.max; exact ⟨m, var_same gn1 e hc (hd 1 (by decide))⟩
def glR : Res where
  fp := fun k => k < 4
  wr := noB
  sub := fun _ h => h.elim
  ok := fun w => Gl w ∧ 4 ≤ w.heap.size
  lt := fun w h k hk => Nat.lt_of_lt_of_le hk h.2
  st := fun w w' D h hc hd => ⟨h.1.keep hc hd, Nat.le_trans h.2 hc.size⟩
theorem OK.srcGr {w0 : World} {S : Pm} {A F F' : List Res} {w : World} (hw : OK w0 S (A ++ F) w) (t : Take1 F glR F') : GlS w (fpL A) := fun w' hc => by
  have hok := hw.all glR (List.mem_append_right _ t.mem)
  refine (glR.st w w' _ hok hc fun k hk => ?_).1
  rintro ⟨s, hs, hsk⟩
  exact ((List.pairwise_append.1 hw.dis).2.2 s hs glR t.mem).1 k hsk hk
end Go.Proofs.YtbgimajbehodnaaGreatDoor
