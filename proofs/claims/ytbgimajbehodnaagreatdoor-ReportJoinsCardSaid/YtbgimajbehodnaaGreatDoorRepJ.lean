/- The library's functions on texts, by its shelf; numbers read: the walks. -/
import Derived.Test.YtbgimajbehodnaaGreatDoorRepH
import Derived.Test.YtbgimajbehodnaaGreatDoorRepV
import Derived.Shelf.Strings.Split
import Derived.Shelf.Small.Strs
import Derived.Shelf.Small.Wraps
import Derived.Shelf.Pu.ParseUintPublic10
namespace Go.Proofs.YtbgimajbehodnaaGreatDoor
open Go Go.RowKit Go.Shelf
def rho146 : Ren := ⟨fun n => match n with | 146 => 95 | 221 => 117 | 268 => 144 | 138 => 145 | 143 => 146 | 195 => 179 | 197 => 180 | 218 => 181 | 219 => 182 | 260 => 200 | 217 => 116 | 225 => 201 | 224 => 202 | 267 => 203 | 266 => 143 | 314 => 208 | n => n, fun n => match n with | 9 => 9 | 31 => 85 | 3 => 3 | 4 => 4 | 0 => 0 | 105 => 233 | 21 => 21 | 5 => 5 | 46 => 180 | 119 => 255 | 139 => 258 | 138 => 257 | 146 => 259 | 51 => 24 | n => n, fun n => match n with | 1 => 1 | 3 => 6 | 4 => 7 | n => n⟩
def rho100 : Ren := ⟨fun n => match n with | 100 => 55 | 207 => 92 | n => n, fun n => match n with | 9 => 9 | 4 => 4 | 3 => 3 | n => n, fun n => n⟩
def rho102 : Ren := ⟨fun n => match n with | 102 => 36 | 209 => 75 | 207 => 92 | n => n, fun n => match n with | 9 => 9 | 4 => 4 | 3 => 3 | n => n, fun n => n⟩
def rho103 : Ren := ⟨fun n => match n with | 103 => 54 | 210 => 91 | 206 => 115 | n => n, fun n => match n with | 9 => 9 | 4 => 4 | 24 => 113 | 3 => 3 | n => n, fun n => n⟩
def rho137 : Ren := ⟨fun n => match n with | 137 => 94 | 217 => 116 | 266 => 143 | n => n, fun n => match n with | 9 => 9 | 5 => 5 | 3 => 3 | n => n, fun n => n⟩
def rho14 : Ren := ⟨fun n => match n with | 14 => 118 | 16 => 147 | 17 => 148 | 19 => 183 | 20 => 184 | 21 => 185 | 22 => 186 | 23 => 187 | 24 => 188 | 25 => 204 | 27 => 61 | 26 => 205 | 28 => 98 | 29 => 120 | 30 => 121 | 31 => 122 | 32 => 123 | 33 => 124 | 35 => 142 | 34 => 149 | 36 => 150 | 37 => 151 | 38 => 152 | 39 => 189 | 40 => 190 | n => n, fun n => match n with | 9 => 9 | 3 => 3 | 22 => 34 | 24 => 125 | 25 => 182 | 4 => 4 | 34 => 235 | 5 => 5 | 36 => 180 | 37 => 62 | 0 => 0 | 39 => 237 | 21 => 21 | 44 => 249 | 47 => 169 | 50 => 263 | 48 => 261 | 2 => 2 | 52 => 187 | 55 => 190 | 59 => 212 | 60 => 24 | 20 => 20 | 61 => 213 | 65 => 251 | 66 => 252 | 67 => 134 | n => n, fun n => match n with | 0 => 2 | 1 => 3 | 2 => 0 | 3 => 4 | 4 => 5 | n => n⟩
set_option maxRecDepth 1000000 in
theorem lays146 : Lays.n146 Tryz.prog rho146 := by
  constructor <;> first | exact mixed | kernel_rfl | (intro w; kernel_rfl)
set_option maxRecDepth 1000000 in
theorem lays100 : Lays.n100 Tryz.prog rho100 := by
  constructor <;> first | exact mixed | kernel_rfl | (intro w; kernel_rfl)
set_option maxRecDepth 1000000 in
theorem lays102 : Lays.n102 Tryz.prog rho102 := by
  constructor <;> first | exact mixed | kernel_rfl | (intro w; kernel_rfl)
set_option maxRecDepth 1000000 in
theorem lays103 : Lays.n103 Tryz.prog rho103 := by
  constructor <;> first | exact mixed | kernel_rfl | (intro w; kernel_rfl)
set_option maxRecDepth 1000000 in
theorem lays137 : Lays.n137 Tryz.prog rho137 := by
  constructor <;> first | exact mixed | kernel_rfl | (intro w; kernel_rfl)
set_option maxRecDepth 1000000 in
theorem lays14 : LaysPu.n14 Tryz.prog rho14 := by
  constructor <;> first | exact mixed | kernel_rfl | (intro w; kernel_rfl)
theorem ok_of_below {w w' : World} (h : Below w.heap.size w w') : OK w (fpL []) [] w' :=
  ⟨⟨h.os, h.tape, h.output, h.size, fun k hk _ => h.block k hk⟩, (fun _ h => nomatch h), (fun _ h => nomatch h), (fun _ h => nomatch h), List.Pairwise.nil⟩
theorem u8L_back {l : List Int} (h : Bytes l) : (u8L l).map (fun b => (b.toNat : Int)) = l := by
  unfold u8L
  rw [List.map_map]
  conv => rhs; rw [← List.map_id l]
  refine List.map_congr_left fun x hx => ?_
  have := h x hx
  show ((UInt8.ofNat x.toNat).toNat : Int) = x
  rw [UInt8.toNat_ofNat', Nat.mod_eq_of_lt (by omega)]
  omega
theorem u8L_len (l : List Int) : (u8L l).length = l.length := List.length_map _
theorem u8L_dec (u : Nat) : u8L (decI u) = Lib.decDigits u := by
  have h := dec_str u
  have h2 := congrArg (fun s : ByteArray => s.data.toList) h
  rw [strOfNums_data] at h2
  exact h2.symm
/-! ### Prefixes and suffixes -/
def sufI (l : List Int) : Bool := decide (l.getLast? = some 10)
theorem has_suf {l : List Int} (h : Bytes l) : Lib.hasSuffix (u8L l) [10] = sufI l := by
  unfold Lib.hasSuffix sufI
  rw [Bool.eq_iff_iff, List.isSuffixOf_iff_suffix, decide_eq_true_iff]
  constructor
  · rintro ⟨t, ht⟩
    have h2 := congrArg (List.map fun b : UInt8 => (b.toNat : Int)) ht
    rw [u8L_back h, List.map_append] at h2
    rw [← h2]
    simp
  · intro h2
    obtain ⟨t, rfl⟩ := List.getLast?_eq_some_iff.1 h2
    exact ⟨u8L t, by simp [u8L]⟩
theorem hasS_any (l : List Int) (h : Bytes l) (hl : l.length ≤ 1000000000) (w : World) : Fn Tryz.prog 55 [.string (strOfNums l), .string ⟨#[10]⟩] [] w (fun _ : Unit => True) (fun _ => .bool (sufI l)) (fun _ => []) := by
  refine Calls.mono (Any.strings_HasSuffix lays100 (strOfNums l) ⟨#[10]⟩ w (by rw [strOfNums_size]; omega)) ?_
  rintro e w' ⟨rfl, rfl⟩
  exact ⟨(), trivial, by rw [strOfNums_data]; exact congrArg (fun b => Ending.returned (Value.bool b)) (has_suf h), ok_same⟩
theorem trim_any (q : List Int) (h : Bytes q) (hl : q.length ≤ 1000000000) (w : World) : Fn Tryz.prog 36 [.string (strOfNums (q ++ [10])), .string ⟨#[10]⟩] [] w (fun _ : Unit => True) (fun _ => .string (strOfNums q)) (fun _ => []) := by
  refine Calls.mono (Any.strings_TrimSuffix lays102 (strOfNums (q ++ [10])) ⟨#[10]⟩ w (by rw [strOfNums_size, List.length_append]; simp; omega)) ?_
  rintro e w' ⟨rfl, rfl⟩
  refine ⟨(), trivial, ?_, ok_same⟩
  have e1 : (strOfNums (q ++ [10])).data.toList = u8L (q ++ [10]) := strOfNums_data _
  have e2 : Lib.trimSuffix (u8L (q ++ [10])) [10] = u8L q := by
    unfold Lib.trimSuffix
    rw [has_suf (h.app bytes10), if_pos (by unfold sufI; simp)]
    rw [u8L_len, List.length_append, List.length_singleton, List.length_singleton, Nat.add_sub_cancel]
    unfold u8L
    rw [← List.map_take, List.take_left]
  rw [e1, show ((⟨#[10]⟩ : ByteArray).data.toList) = [10] from rfl, e2]
  rfl
/-- Whether a text begins with the headline. -/
def preI (l : List Int) : Bool := headI.isPrefixOf l
def cutI (l : List Int) : List Int := if preI l then l.drop 43 else l
theorem has_pre {l : List Int} (h : Bytes l) : Lib.hasPrefix (u8L l) (u8L headI) = preI l := by
  unfold Lib.hasPrefix preI
  rw [Bool.eq_iff_iff, List.isPrefixOf_iff_prefix, List.isPrefixOf_iff_prefix]
  constructor
  · rintro ⟨t, ht⟩
    have h2 := congrArg (List.map fun b : UInt8 => (b.toNat : Int)) ht
    rw [u8L_back h, List.map_append, u8L_back headI_bytes] at h2
    exact ⟨_, h2⟩
  · rintro ⟨t, rfl⟩
    exact ⟨u8L t, by simp [u8L]⟩
theorem cut_any (l : List Int) (h : Bytes l) (w : World) : Fn Tryz.prog 54 [.string (strOfNums l), .string (strOfNums headI)] [] w (fun _ : Unit => True) (fun _ => .tuple #[.string (strOfNums (cutI l)), .bool (preI l)]) (fun _ => []) := by
  refine Calls.mono (Any.strings_CutPrefix lays103 (strOfNums l) (strOfNums headI) w) ?_
  rintro e w' ⟨rfl, rfl⟩
  refine ⟨(), trivial, ?_, ok_same⟩
  have e1 : (strOfNums l).data.toList = u8L l := strOfNums_data _
  have e3 : (strOfNums headI).data.toList = u8L headI := strOfNums_data _
  have e2 : Lib.trimPrefix (u8L l) (u8L headI) = u8L (cutI l) := by
    unfold Lib.trimPrefix cutI
    rw [has_pre h]
    split
    · rw [u8L_len, headI_len]
      unfold u8L
      rw [List.map_drop]
    · rfl
  rw [e1, e3, e2, has_pre h]
  rfl
/-- The first place of a line's end. -/
def ixI (l : List Int) : Int := Lib.indexByte (u8L l) 10
theorem idx_any (l : List Int) (w : World) : Fn Tryz.prog 94 [.string (strOfNums l), .int .u8 10] [] w (fun _ : Unit => True) (fun _ => .int .i64 (ixI l)) (fun _ => []) := by
  refine Calls.mono (Any.strings_IndexByte lays137 (strOfNums l) 10 w) ?_
  rintro e w' ⟨rfl, rfl⟩
  refine ⟨(), trivial, ?_, ok_same⟩
  rw [strOfNums_data]
  rfl
theorem ix_cases {l : List Int} (h : Bytes l) : (ixI l = -1 ∧ Free 10 l) ∨ ∃ i : Nat, ixI l = i ∧ i < l.length ∧ l = l.take i ++ 10 :: l.drop (i + 1) ∧ Free 10 (l.take i) := by
  have key : ∀ x : Int, 0 ≤ x ∧ x < 256 → (UInt8.ofNat x.toNat = 10 ↔ x = 10) := fun x hx => by
    constructor
    · intro h2
      have h3 := congrArg UInt8.toNat h2
      rw [UInt8.toNat_ofNat', Nat.mod_eq_of_lt (by omega)] at h3
      have : (10 : UInt8).toNat = 10 := rfl
      omega
    · rintro rfl; rfl
  have hge := Lib.indexByte_ge (u8L l) 10
  by_cases h1 : ixI l = -1
  · refine .inl ⟨h1, fun x hx e => ?_⟩
    obtain ⟨k, hk, rfl⟩ := List.getElem_of_mem hx
    refine Lib.indexByte_none h1 k ?_
    unfold u8L
    rw [List.getElem?_map, List.getElem?_eq_getElem hk, Option.map_some, (key _ (h _ hx)).2 e]
  · obtain ⟨i, hi⟩ : ∃ i : Nat, ixI l = i := ⟨(ixI l).toNat, by unfold ixI at h1 ⊢; omega⟩
    obtain ⟨a, b⟩ := Lib.indexByte_some (o := i) hi
    have hil : i < l.length := by have := (List.getElem?_eq_some_iff.1 a).1; rwa [u8L_len] at this
    have hv : l[i] = 10 := by
      unfold u8L at a
      rw [List.getElem?_map, List.getElem?_eq_getElem hil, Option.map_some] at a
      exact (key _ (h _ (List.getElem_mem _))).1 (Option.some.inj a)
    refine .inr ⟨i, hi, hil, ?_, fun x hx e => ?_⟩
    · conv => lhs; rw [← List.take_append_drop i l, List.drop_eq_getElem_cons hil, hv]
    · obtain ⟨k, hk, rfl⟩ := List.getElem_of_mem hx
      rw [List.length_take] at hk
      refine b k (by omega) ?_
      unfold u8L
      rw [List.getElem_take] at e
      rw [List.getElem?_map, List.getElem?_eq_getElem (by omega), Option.map_some, (key _ (h _ (List.getElem_mem _))).2 e]
/-! ### Split -/
def strV (l : List Int) : Value := .string (strOfNums l)
theorem split_any (l : List Int) (h : Bytes l) (hl : l.length ≤ 1000000000) (w : World) (hg : GlS w (fpL [])) : Fn Tryz.prog 95 [strV l, .string ⟨#[32]⟩] [] w (fun _ : Nat => True) (fun b => .slice (some ⟨b, 0, none⟩) (spI l).length (spI l).length) (fun b => [blkR b 9 ((spI l).map strV)]) := by
  obtain ⟨m, hm⟩ := (hg w (Chg.refl _ _)).max
  refine Calls.mono (Any.strings_Split lays146 (by kernel_rfl) (strOfNums l) ⟨#[32]⟩ m w (by rw [strOfNums_size]; omega) (by have h0 := World.var?_cell gn1 hm 0; show w.cell? ⟨1, 0, none⟩ = _; simpa using h0) (by decide)) ?_
  rintro e w' ⟨rfl, rfl⟩
  refine ⟨w.heap.size, trivial, ?_, ?_⟩
  · rw [split_len h]
  · rw [split_str h, List.map_map]
    exact OK.one (Chg.alloc _ w _) (World.alloc_heap_new w _) (fun k hk hlt => by cases hk; exact absurd hlt (Nat.lt_irrefl _)) (fun k hk hlt => by cases hk; exact absurd hlt (Nat.lt_irrefl _))
/-! ### Numbers -/
def errV (b : Bool) (tp : TypeId) (p : Value) : Value := if b then .nilIface else .iface tp p
def isIfcB (P : Program) (t : TypeId) : Bool := match P.underlying t with
  | some (.interface _) => true
  | _ => false
section
variable {c : Cx} {env : Env} {ds : List Deferred} {H : List Res} {dst : Option Tmp} {ty : TypeId} {pos : String} {af : Array Edge} {g : Option (Nat × Bool)}
theorem Yl.eqNilI {t t2 : TypeId} {x : Operand} {b : Bool} {tp : TypeId} {p : Value} (hb : isIfcB c.P t = true) (hx : ev env x = some (errV b tp p)) : Yl c env ds H ⟨dst, .binOp .eql t x (.const .nilIface) t2, ty, pos, af, g⟩ (.bool b) := fun a w ha _ => by
  obtain ⟨ms, hu⟩ : ∃ ms, c.P.underlying t = some (.interface ms) := by
    unfold isIfcB at hb
    split at hb
    · rename_i ms h; exact ⟨ms, h⟩
    · cases hb
  have e1 : (Op.equal t (errV b tp p) .nilIface).run c.P w = .ok b w := by
    have e1 : Op.equal t (errV b tp p) .nilIface = Op.equalIn (9999 + 1) t (errV b tp p) .nilIface := rfl
    rw [e1, Op.equalIn, Sem.run_bind, run_underlying hu w]
    cases b <;> simp [errV]
  have hc : a.eval (.const .nilIface) = .nilIface := rfl
  cases b <;> simp [execOp, ha.ev hx, hc, eqGuard, binOp, errV] at e1 ⊢ <;> simp [e1]
end
theorem parseM_le {M : Nat} : ∀ {l : List UInt8} {acc u : Nat}, acc ≤ M → Lib.parseUintM M acc l = .ok u → u ≤ M
  | [], acc, u, ha, h => by
    rw [Lib.parseUintM] at h
    cases h
    exact ha
  | c :: l, acc, u, ha, h => by
    rw [Lib.parseUintM] at h
    split at h
    · split at h
      · cases h
      · split at h
        · cases h
        · exact parseM_le (by omega) h
    · cases h
theorem parseB_lt {B : Nat} {l : List UInt8} {u : Nat} (h : Lib.parseUintB B l = .ok u) : u < 2 ^ B := by
  unfold Lib.parseUintB at h
  split at h
  · cases h
  · have := parseM_le (Nat.zero_le _) h
    have := Nat.two_pow_pos B
    omega
theorem chg_bytes (w : World) (e : TypeId) (s : ByteArray) : Below w.heap.size w (Lib.bytesWorld w e s) := ⟨rfl, rfl, rfl, by rw [Lib.bytesWorld_size]; omega, fun j hj => Lib.bytesWorld_at_old w e s j hj⟩
theorem pu_any (B : Nat) (hB : B = 8 ∨ B = 64) (l : List Int) (hl : l.length ≤ 1000000000) (w : World) (hg : GlS w (fpL [])) :
    Fn Tryz.prog 118 [.string (strOfNums l), .int .i64 10, .int .i64 (B : Int)] [] w (fun y : Nat × Bool × TypeId × Value => y.1 < 18446744073709551616 ∧ ((y.2.1 = true ∧ Lib.parseUintB B (u8L l) = .ok y.1) ∨ (y.2.1 = false ∧ ∀ u, Lib.parseUintB B (u8L l) ≠ .ok u))) (fun y => .tuple #[.int .u64 (y.1 : Int), errV y.2.1 y.2.2.1 y.2.2.2]) (fun _ => []) := by
  have hsz : (strOfNums l).size ≤ 1000000000 := by rw [strOfNums_size]; exact hl
  have hd : (strOfNums l).data.toList = u8L l := strOfNums_data l
  obtain ⟨ev1, hs0, he1⟩ := (hg w (Chg.refl _ _)).syn
  have hs : w.cell? ⟨2, 0, none⟩ = some ev1 := by have h0 := World.var?_cell gn2 hs0 0; simpa using h0
  obtain ⟨ev2, hr0, he2⟩ := (hg w (Chg.refl _ _)).rng
  have hr : w.cell? ⟨3, 0, none⟩ = some ev2 := by have h0 := World.var?_cell gn3 hr0 0; simpa using h0
  rcases hB with rfl | rfl
  · cases hp : Lib.parseUintB 8 (u8L l) with
    | ok u =>
      have hu := parseB_lt hp
      refine Calls.mono (Any.strconv_ParseUint_10_at8_ok lays14 (strOfNums l) (by omega) u (by rw [hd]; exact hp) w) ?_
      rintro e w' ⟨rfl, h⟩
      exact ⟨(u, true, 0, .nilIface), ⟨by show u < _; omega, .inl ⟨rfl, rfl⟩⟩, rfl, by rcases h with rfl | rfl; exact ok_same; exact ok_of_below (chg_bytes _ _ _)⟩
    | «syntax» =>
      refine Calls.mono (Any.strconv_ParseUint_10_at8_syntax lays14 (strOfNums l) (by omega) (by rw [hd]; exact hp) ev1 w hs he1) ?_
      rintro e w' ⟨N, rfl, _, _, h⟩
      exact ⟨(0, false, _, _), ⟨(by decide : (0 : Nat) < 18446744073709551616), .inr ⟨rfl, fun u h => by cases h⟩⟩, rfl, ok_of_below h⟩
    | range =>
      refine Calls.mono (Any.strconv_ParseUint_10_at8_range lays14 (strOfNums l) (by omega) (by rw [hd]; exact hp) ev2 w hr he2) ?_
      rintro e w' ⟨N, rfl, _, _, h⟩
      exact ⟨(255, false, _, _), ⟨(by decide : (255 : Nat) < 18446744073709551616), .inr ⟨rfl, fun u h => by cases h⟩⟩, rfl, ok_of_below h⟩
  · cases hp : Lib.parseUintB 64 (u8L l) with
    | ok u =>
      have hu := parseB_lt hp
      refine Calls.mono (Any.strconv_ParseUint_10_at64_ok lays14 (strOfNums l) (by omega) u (by rw [hd]; exact hp) w) ?_
      rintro e w' ⟨rfl, h⟩
      exact ⟨(u, true, 0, .nilIface), ⟨by show u < _; omega, .inl ⟨rfl, rfl⟩⟩, rfl, by rcases h with rfl | rfl; exact ok_same; exact ok_of_below (chg_bytes _ _ _)⟩
    | «syntax» =>
      refine Calls.mono (Any.strconv_ParseUint_10_at64_syntax lays14 (strOfNums l) (by omega) (by rw [hd]; exact hp) ev1 w hs he1) ?_
      rintro e w' ⟨N, rfl, _, _, h⟩
      exact ⟨(0, false, _, _), ⟨(by decide : (0 : Nat) < 18446744073709551616), .inr ⟨rfl, fun u h => by cases h⟩⟩, rfl, ok_of_below h⟩
    | range =>
      refine Calls.mono (Any.strconv_ParseUint_10_at64_range lays14 (strOfNums l) (by omega) (by rw [hd]; exact hp) ev2 w hr he2) ?_
      rintro e w' ⟨N, rfl, _, _, h⟩
      exact ⟨(18446744073709551615, false, _, _), ⟨(by decide : (18446744073709551615 : Nat) < 18446744073709551616), .inr ⟨rfl, fun u h => by cases h⟩⟩, rfl, ok_of_below h⟩
/-- What a word tells: its number, and whether it is one. -/
def numOk (B : Nat) (l : List Int) (y : Nat × Bool) : Prop := y.1 < 18446744073709551616 ∧ (y.2 = true → l = decI y.1 ∧ y.1 < 2 ^ B) ∧ ∀ u, u < 2 ^ B → l = decI u → y = (u, true)
theorem number_any (B : Nat) (hB : B = 8 ∨ B = 64) (l : List Int) (hl : l.length ≤ 1000000000) (hby : Bytes l) (w : World) (hg : GlS w (fpL [])) (hw : OK w (fpL []) [] w) :
    Fn Tryz.prog 96 [.string (strOfNums l), .int .i64 (B : Int)] [] w (numOk B l) (fun y => .tuple #[.int .u64 (y.1 : Int), .bool y.2]) (fun _ => []) := by
  have hB2 : 2 ^ B ≤ 18446744073709551616 := by rcases hB with rfl | rfl <;> decide
  refine enterF Tryz.func96 rfl Tryz.ntmps96 rfl hw ?_
  refine WC.seq ?_
  refine WC.region ?_
  refine WL.y (Yl.assign rfl) rfl ?_
  refine WL.y (Yl.assign rfl) rfl ?_
  refine WL.nil ?_
  refine WC.seq ?_
  refine WC.region ?_
  refine WL.y (Yl.move rfl) rfl ?_
  refine WL.y (Yl.move rfl) rfl ?_
  refine WL.callC (xs := [.tmp 9, _, .tmp 10]) (cap := []) rfl rfl en118 (by repeat' constructor) (fun w hw => pu_any B hB l hl w (hw.srcG hg)) rfl ?_
  rintro ⟨n, b, tp, p⟩ ⟨hn, hp⟩
  dsimp only at hn hp ⊢
  refine WL.y (Yl.move rfl) rfl ?_
  refine WL.y (Yl.extract rfl rfl) rfl ?_
  refine WL.y (Yl.extract rfl rfl) rfl ?_
  refine WL.y (Yl.assign rfl) rfl ?_
  refine WL.y (Yl.assign rfl) rfl ?_
  refine WL.nil ?_
  refine WC.seq ?_
  refine WC.region ?_
  refine WL.y (Yl.move rfl) rfl ?_
  refine WL.y (Yl.move rfl) rfl ?_
  refine WL.y (Yl.eqNilI (b := b) (by kernel_rfl) rfl) rfl ?_
  refine WL.y (Yl.move rfl) rfl ?_
  refine WL.both (t := 17) rfl (fun g17 => ?_) (fun g17 => ?_)
  · refine WL.on rfl rfl ?_
    refine WL.y (Yl.move rfl) rfl ?_
    refine WL.on rfl rfl ?_
    refine WL.callC (xs := [.tmp 18, _]) (cap := []) rfl rfl en63 (by repeat' constructor) (fun w hw => formatU_any n hn w (hw.srcG hg) hw.left.here) rfl ?_
    rintro ⟨⟩ -
    refine WL.on rfl rfl ?_
    refine WL.y (Yl.move rfl) rfl ?_
    refine WL.on rfl rfl ?_
    refine WL.y (Yl.sEqT (decI_bytes n) hby rfl rfl) rfl ?_
    refine WL.y (Yl.pickT rfl rfl) rfl ?_
    refine WL.y (Yl.assign rfl) rfl ?_
    refine WL.y (Yl.assign rfl) rfl ?_
    refine WL.nil ?_
    refine WC.ret ?_
    repeat (with_reducible (first | refine peelT ?_ | refine peelB ?_ | refine peelTX ?_ | refine peelBX ?_ | refine peelBN ?_ | refine peelBO rfl ?_))
    have hpo : Lib.parseUintB B (u8L l) = .ok n := by
      rcases hp with ⟨_, h⟩ | ⟨h, _⟩
      · exact h
      · rw [h] at g17; cases g17
    exact ret2 (.inr rfl) Tryz.results96 rfl rfl fun w' h => ⟨(n, decide (decI n = l)), ⟨hn, fun e => ⟨(of_decide_eq_true e).symm, parseB_lt hpo⟩, fun u hu e => by
      have h2 := parseB_dec hB2 u hu
      rw [← u8L_dec, ← e, hpo] at h2
      cases h2
      rw [decide_eq_true e.symm]⟩, rfl, h.sub (by repeat' constructor)⟩
  · refine WL.off rfl rfl rfl rfl ?_
    refine WL.off rfl rfl rfl rfl ?_
    refine WL.off rfl rfl rfl rfl ?_
    refine WL.off rfl rfl rfl rfl ?_
    refine WL.y (Yl.pickF rfl rfl) rfl ?_
    refine WL.y (Yl.assign rfl) rfl ?_
    refine WL.y (Yl.assign rfl) rfl ?_
    refine WL.nil ?_
    refine WC.ret ?_
    repeat (with_reducible (first | refine peelT ?_ | refine peelB ?_ | refine peelTX ?_ | refine peelBX ?_ | refine peelBN ?_ | refine peelBO rfl ?_))
    have hpo : ∀ u, Lib.parseUintB B (u8L l) ≠ .ok u := by
      rcases hp with ⟨h, _⟩ | ⟨_, h⟩
      · rw [h] at g17; cases g17
      · exact h
    exact ret2 (.inr rfl) Tryz.results96 rfl rfl fun w' h => ⟨(n, false), ⟨hn, (fun e => nomatch e), fun u hu e => by
      have h2 := parseB_dec hB2 u hu
      rw [← u8L_dec, ← e] at h2
      exact absurd h2 (hpo u)⟩, rfl, h.sub (by repeat' constructor)⟩
end Go.Proofs.YtbgimajbehodnaaGreatDoor
