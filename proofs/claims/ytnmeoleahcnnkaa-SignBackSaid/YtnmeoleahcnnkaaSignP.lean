/- Signals, as cells: plain laws. -/
import Derived.Test.YtnmeoleahcnnkaaWireC
import Derived.Test.YtnmeoleahcnnkaaLibO
namespace Go.Proofs.Ytnmeoleahcnnkaa
open Go Go.RowKit

structure Sg where
  kind : Int
  id : List Int
  ca : Int
  cd : Int
  ce : Int
  key : List Int
  n : Int
  da : Option Addr
  dc : Nat
  data : List Int
  rs : Int
def Sg.cells (s : Sg) : List Value := [.int .u8 s.kind] ++ ints .u8 s.id ++ [.int .u8 s.ca, .int .u8 s.cd, .int .u8 s.ce] ++ ints .u8 s.key ++ [.int .u32 s.n, .slice s.da s.data.length s.dc, .int .u8 s.rs]
structure Sg.ok (s : Sg) : Prop where
  kind : 0 ≤ s.kind ∧ s.kind < 256
  il : s.id.length = 16
  ib : Bytes s.id
  ca : 0 ≤ s.ca ∧ s.ca < 256
  cd : 0 ≤ s.cd ∧ s.cd < 256
  ce : 0 ≤ s.ce ∧ s.ce < 256
  kl : s.key.length = 32
  kb : Bytes s.key
  n : 0 ≤ s.n ∧ s.n < 4294967296
  db : Bytes s.data
  rs : 0 ≤ s.rs ∧ s.rs < 256
variable {s : Sg}
theorem Sg.len (h : s.ok) : s.cells.length = 55 := by simp [Sg.cells, ints_length, h.il, h.kl]
theorem Sg.c0 : s.cells[0 + 0]? = some (.int .u8 s.kind) := rfl
theorem Sg.tail17 (h : s.ok) : s.cells.drop 17 = [.int .u8 s.ca, .int .u8 s.cd, .int .u8 s.ce] ++ ints .u8 s.key ++ [.int .u32 s.n, .slice s.da s.data.length s.dc, .int .u8 s.rs] := by
  unfold Sg.cells
  rw [List.append_assoc, List.append_assoc, List.drop_left' (by simp [ints_length, h.il]), List.append_assoc]
theorem Sg.tail52 (h : s.ok) : s.cells.drop 52 = [.int .u32 s.n, .slice s.da s.data.length s.dc, .int .u8 s.rs] := by
  unfold Sg.cells
  rw [List.drop_left' (by simp [ints_length, h.il, h.kl])]
theorem getDrop {cs ds : List Value} {n : Nat} (h : cs.drop n = ds) (j : Nat) : cs[n + j]? = ds[j]? := by rw [← h, List.getElem?_drop]
theorem Sg.c17 (h : s.ok) : s.cells[0 + 17 + 0]? = some (.int .u8 s.ca) := getDrop (n := 17) (Sg.tail17 h) 0
theorem Sg.c18 (h : s.ok) : s.cells[0 + 17 + 1]? = some (.int .u8 s.cd) := getDrop (n := 17) (Sg.tail17 h) 1
theorem Sg.c19 (h : s.ok) : s.cells[0 + 19]? = some (.int .u8 s.ce) := getDrop (n := 17) (Sg.tail17 h) 2
theorem Sg.c52 (h : s.ok) : s.cells[0 + 52]? = some (.int .u32 s.n) := getDrop (n := 52) (Sg.tail52 h) 0
theorem Sg.c53 (h : s.ok) : s.cells[0 + 53]? = some (.slice s.da s.data.length s.dc) := getDrop (n := 52) (Sg.tail52 h) 1
theorem Sg.c54 (h : s.ok) : s.cells[0 + 54]? = some (.int .u8 s.rs) := getDrop (n := 52) (Sg.tail52 h) 2
theorem Sg.cid (h : s.ok) : (s.cells.drop (0 + 1)).take 16 = ints .u8 s.id := by
  unfold Sg.cells
  simp only [List.append_assoc]; rw [Nat.zero_add, List.drop_left' (by rfl), List.take_left' (by simp [ints_length, h.il])]
theorem Sg.ccal (h : s.ok) : (s.cells.drop (0 + 17)).take 2 = [.int .u8 s.ca, .int .u8 s.cd] := by
  rw [Nat.zero_add, Sg.tail17 h]; rfl
theorem Sg.ckey (h : s.ok) : (s.cells.drop (0 + 20)).take 32 = ints .u8 s.key := by
  have e : s.cells.drop (0 + 20) = (s.cells.drop 17).drop 3 := by rw [List.drop_drop]
  rw [e, Sg.tail17 h]
  simp only [List.cons_append, List.nil_append, List.drop_succ_cons, List.drop_zero]
  rw [List.take_left' (by simp [ints_length, h.kl])]
theorem Sg.call (h : s.ok) : (s.cells.drop 0).take 55 = s.cells := by rw [List.drop_zero, List.take_of_length_le (by rw [Sg.len h]; omega)]
theorem Sg.ones (s : Sg) : ∀ v ∈ s.cells, v.oneCell' = true := by
  intro v hv
  simp only [Sg.cells, List.mem_append, List.mem_cons, List.not_mem_nil, or_false] at hv
  rcases hv with (((rfl | hv) | (rfl | rfl | rfl)) | hv) | (rfl | rfl | rfl)
  all_goals first | rfl | exact ints_one _ _ v hv

def zero32 : List Int := List.replicate 32 0
def Sg.zero : Sg := ⟨0, List.replicate 16 0, 0, 0, 0, zero32, 0, none, 0, [], 0⟩
/-- May it be? In the parts in which it is asked. -/
def bad2 (s : Sg) : Bool := decide (s.kind < 1) || decide (6 < s.kind)
def bad4 (s : Sg) : Bool := (!decide (s.kind = 1) && (!(decide (s.ca = 0) && decide (s.cd = 0)) || !decide (s.ce = 0))) || (!(decide (s.kind = 1) || decide (s.kind = 2)) && !decide (s.key = zero32))
def bad6 (s : Sg) : Bool := (!decide (s.kind = 3) && (!decide (s.n = 0) || decide (0 < s.data.length))) || (!decide (s.kind = 5) && !decide (s.rs = 0))
def mayS (s : Sg) : Bool :=
  !bad2 s && !bad4 s && !bad6 s &&
  (if s.kind = 5 then decide (1 ≤ s.rs) && decide (s.rs ≤ 4) else decide (s.ca < 8) && decide (s.cd < 4) && decide (s.ce < 8) && decide (s.data.length ≤ 1024))
/-- Are they one? -/
def sameS (a b : Sg) : Bool := decide (a.kind = b.kind) && decide (a.id = b.id) && (decide (a.ca = b.ca) && decide (a.cd = b.cd)) && decide (a.ce = b.ce) && decide (a.key = b.key) && decide (a.n = b.n) && decide (a.data = b.data) && decide (a.rs = b.rs)

theorem ints_inj {k : IntKind} {a b : List Int} (h : ints k a = ints k b) : a = b := by
  unfold ints at h
  exact (List.map_inj_right (fun x y e => by injection e)).1 h
theorem eqV_ints {k : IntKind} {a b : List Int} : eqV (ints k a) (ints k b) = decide (a = b) := by
  by_cases h : a = b
  · rw [h, eqV_self]; simp
  · rw [eqV_ne (fun e => h (ints_inj e))]; simp [h]
theorem eqV_dev {a b c d : Int} : eqV [.int .u8 a, .int .u8 b] [.int .u8 c, .int .u8 d] = (decide (a = c) && decide (b = d)) := by
  by_cases h : a = c ∧ b = d
  · obtain ⟨rfl, rfl⟩ := h
    rw [eqV_self]; simp
  · rw [eqV_ne (fun e => h (by injection e with e1 e2; injection e2 with e2 e3; injection e1 with _ e1; injection e2 with _ e2; exact ⟨e1, e2⟩))]
    rcases Decidable.not_and_iff_or_not.1 h with h | h <;> simp [h]
theorem fitsDev {a b : Int} (ha : 0 ≤ a ∧ a < 256) (hb : 0 ≤ b ∧ b < 256) : Fits1 (List.replicate 2 (some .u8)) [.int .u8 a, .int .u8 b] := ⟨⟨rfl, wfB8 ha⟩, ⟨rfl, wfB8 hb⟩, trivial⟩
theorem zero32_ok : zero32.length = 32 ∧ Bytes zero32 := ⟨by simp [zero32], fun x h => by
  have := List.eq_of_mem_replicate h
  omega⟩
/-! Stores -/
theorem set_mid {a p : List Value} {o v : Value} (k : Nat) (h : a.length = k) : (a ++ o :: p).set k v = a ++ v :: p := by
  subst h; simp
theorem splice_mid {a o n p : List Value} (k m : Nat) (h : a.length = k) (hm : o.length = m) : (a ++ (o ++ p)).take k ++ n ++ (a ++ (o ++ p)).drop (k + m) = a ++ (n ++ p) := by
  subst h hm
  rw [List.take_left' rfl, ← List.append_assoc a o p, List.drop_left' (by simp), List.append_assoc]
theorem Sg.s0 (x : Int) : s.cells.set (0 + 0) (.int .u8 x) = { s with kind := x }.cells := rfl
theorem Sg.s17 (h : s.id.length = 16) (x : Int) : s.cells.set (0 + 17 + 0) (.int .u8 x) = { s with ca := x }.cells := by
  have e : ∀ y z, ({ s with ca := y } : Sg).cells = ([.int .u8 s.kind] ++ ints .u8 s.id) ++ .int .u8 y :: ([.int .u8 s.cd, .int .u8 s.ce] ++ ints .u8 s.key ++ z) ↔ z = [.int .u32 s.n, .slice s.da s.data.length s.dc, .int .u8 s.rs] := fun y z => by simp [Sg.cells, eq_comm]
  rw [show s.cells = ({ s with ca := s.ca } : Sg).cells from rfl, (e s.ca _).2 rfl, (e x _).2 rfl, set_mid _ (by simp [ints_length, h])]
theorem Sg.s18 (h : s.id.length = 16) (x : Int) : s.cells.set (0 + 17 + 1) (.int .u8 x) = { s with cd := x }.cells := by
  have e : ∀ y, ({ s with cd := y } : Sg).cells = ([.int .u8 s.kind] ++ ints .u8 s.id ++ [.int .u8 s.ca]) ++ .int .u8 y :: ([.int .u8 s.ce] ++ ints .u8 s.key ++ [.int .u32 s.n, .slice s.da s.data.length s.dc, .int .u8 s.rs]) := fun y => by simp [Sg.cells]
  rw [show s.cells = ({ s with cd := s.cd } : Sg).cells from rfl, e s.cd, e x, set_mid _ (by simp [ints_length, h])]
theorem Sg.s19 (h : s.id.length = 16) (x : Int) : s.cells.set (0 + 19) (.int .u8 x) = { s with ce := x }.cells := by
  have e : ∀ y, ({ s with ce := y } : Sg).cells = ([.int .u8 s.kind] ++ ints .u8 s.id ++ [.int .u8 s.ca, .int .u8 s.cd]) ++ .int .u8 y :: (ints .u8 s.key ++ [.int .u32 s.n, .slice s.da s.data.length s.dc, .int .u8 s.rs]) := fun y => by simp [Sg.cells]
  rw [show s.cells = ({ s with ce := s.ce } : Sg).cells from rfl, e s.ce, e x, set_mid _ (by simp [ints_length, h])]
theorem Sg.s52 (h : s.id.length = 16) (hk : s.key.length = 32) (x : Int) : s.cells.set (0 + 52) (.int .u32 x) = { s with n := x }.cells := by
  have e : ∀ y, ({ s with n := y } : Sg).cells = ([.int .u8 s.kind] ++ ints .u8 s.id ++ [.int .u8 s.ca, .int .u8 s.cd, .int .u8 s.ce] ++ ints .u8 s.key) ++ .int .u32 y :: [.slice s.da s.data.length s.dc, .int .u8 s.rs] := fun y => by simp [Sg.cells]
  rw [show s.cells = ({ s with n := s.n } : Sg).cells from rfl, e s.n, e x, set_mid _ (by simp [ints_length, h, hk])]
theorem Sg.s53 (h : s.id.length = 16) (hk : s.key.length = 32) (a : Option Addr) (c : Nat) (x : List Int) : s.cells.set (0 + 53) (.slice a x.length c) = { s with da := a, dc := c, data := x }.cells := by
  have e : ∀ a c (x : List Int), ({ s with da := a, dc := c, data := x } : Sg).cells = ([.int .u8 s.kind] ++ ints .u8 s.id ++ [.int .u8 s.ca, .int .u8 s.cd, .int .u8 s.ce] ++ ints .u8 s.key ++ [.int .u32 s.n]) ++ .slice a x.length c :: [.int .u8 s.rs] := fun a c x => by simp [Sg.cells]
  rw [show s.cells = ({ s with da := s.da, dc := s.dc, data := s.data } : Sg).cells from rfl, e s.da, e a, set_mid _ (by simp [ints_length, h, hk])]
theorem Sg.s54 (h : s.id.length = 16) (hk : s.key.length = 32) (x : Int) : s.cells.set (0 + 54) (.int .u8 x) = { s with rs := x }.cells := by
  have e : ∀ y, ({ s with rs := y } : Sg).cells = ([.int .u8 s.kind] ++ ints .u8 s.id ++ [.int .u8 s.ca, .int .u8 s.cd, .int .u8 s.ce] ++ ints .u8 s.key ++ [.int .u32 s.n, .slice s.da s.data.length s.dc]) ++ .int .u8 y :: [] := fun y => by simp [Sg.cells]
  rw [show s.cells = ({ s with rs := s.rs } : Sg).cells from rfl, e s.rs, e x, set_mid _ (by simp [ints_length, h, hk])]
theorem Sg.pdev (h : s.id.length = 16) (a b : Int) : s.cells.take (0 + 17) ++ [.int .u8 a, .int .u8 b] ++ s.cells.drop (0 + 17 + 2) = { s with ca := a, cd := b }.cells := by
  have e : ∀ y z, ({ s with ca := y, cd := z } : Sg).cells = ([.int .u8 s.kind] ++ ints .u8 s.id) ++ ([.int .u8 y, .int .u8 z] ++ ([.int .u8 s.ce] ++ ints .u8 s.key ++ [.int .u32 s.n, .slice s.da s.data.length s.dc, .int .u8 s.rs])) := fun y z => by simp [Sg.cells]
  rw [show s.cells = ({ s with ca := s.ca, cd := s.cd } : Sg).cells from rfl, e s.ca, e a, splice_mid (0 + 17) 2 (by simp [ints_length, h]) rfl]
theorem Sg.pkey (h : s.id.length = 16) (hk : s.key.length = 32) (x : List Int) : s.cells.take (0 + 20) ++ ints .u8 x ++ s.cells.drop (0 + 20 + 32) = { s with key := x }.cells := by
  have e : ∀ y, ({ s with key := y } : Sg).cells = ([.int .u8 s.kind] ++ ints .u8 s.id ++ [.int .u8 s.ca, .int .u8 s.cd, .int .u8 s.ce]) ++ (ints .u8 y ++ ([.int .u32 s.n, .slice s.da s.data.length s.dc, .int .u8 s.rs])) := fun y => by simp [Sg.cells]
  rw [show s.cells = ({ s with key := s.key } : Sg).cells from rfl, e s.key, e x, splice_mid (0 + 20) 32 (by simp [ints_length, h]) (by simp [ints_length, hk])]
/-- A copy over the front of the key, of the id. -/
def over (T old : List Int) : List Int := T ++ old.drop T.length
theorem over_len {T old : List Int} {n : Nat} (h : T.length ≤ n) (ho : old.length = n) : (over T old).length = n := by simp [over]; omega
theorem over_bytes {T old : List Int} (h : Bytes T) (ho : Bytes old) : Bytes (over T old) := fun x hx => by
  rcases List.mem_append.1 hx with k | k
  · exact h x k
  · exact ho x (List.mem_of_mem_drop k)
theorem over_all {T old : List Int} (h : old.length ≤ T.length) : over T old = T := by simp [over, List.drop_eq_nil_iff.2 h]
theorem Sg.okey (h : s.id.length = 16) (hk : s.key.length = 32) {T : List Int} (hT : T.length ≤ 32) : s.cells.take (0 + 20) ++ (ints .u8 T).take 32 ++ s.cells.drop (0 + 20 + ((ints .u8 T).take 32).length) = { s with key := over T s.key }.cells := by
  have e1 : (ints .u8 T).take 32 = ints .u8 T := List.take_of_length_le (by rw [ints_length]; exact hT)
  have e : ∀ y, ({ s with key := y } : Sg).cells = ([.int .u8 s.kind] ++ ints .u8 s.id ++ [.int .u8 s.ca, .int .u8 s.cd, .int .u8 s.ce]) ++ (ints .u8 y ++ ([.int .u32 s.n, .slice s.da s.data.length s.dc, .int .u8 s.rs])) := fun y => by simp [Sg.cells]
  rw [e1, show s.cells = ({ s with key := s.key.take T.length ++ s.key.drop T.length } : Sg).cells by rw [List.take_append_drop], e, e, ← ints_append, List.append_assoc (ints IntKind.u8 _) (ints IntKind.u8 _),
    splice_mid (0 + 20) (ints .u8 T).length (by simp [ints_length, h]) (by simp [ints_length]; omega), over, ← ints_append, List.append_assoc (ints IntKind.u8 _)]
theorem Sg.oid (h : s.id.length = 16) {T : List Int} (hT : T.length ≤ 16) : s.cells.take (0 + 1) ++ (ints .u8 T).take 16 ++ s.cells.drop (0 + 1 + ((ints .u8 T).take 16).length) = { s with id := over T s.id }.cells := by
  have e1 : (ints .u8 T).take 16 = ints .u8 T := List.take_of_length_le (by rw [ints_length]; exact hT)
  have e : ∀ y, ({ s with id := y } : Sg).cells = [.int .u8 s.kind] ++ (ints .u8 y ++ ([.int .u8 s.ca, .int .u8 s.cd, .int .u8 s.ce] ++ ints .u8 s.key ++ [.int .u32 s.n, .slice s.da s.data.length s.dc, .int .u8 s.rs])) := fun y => by simp [Sg.cells]
  rw [e1, show s.cells = ({ s with id := s.id.take T.length ++ s.id.drop T.length } : Sg).cells by rw [List.take_append_drop], e, e, ← ints_append, List.append_assoc (ints IntKind.u8 _) (ints IntKind.u8 _),
    splice_mid (0 + 1) (ints .u8 T).length rfl (by simp [ints_length]; omega), over, ← ints_append, List.append_assoc (ints IntKind.u8 _)]
theorem Sg.all (h : s.cells.length = 55) (ys : List Value) : s.cells.take 0 ++ ys ++ s.cells.drop (0 + 55) = ys := by
  rw [List.drop_eq_nil_iff.2 (by omega)]; simp
theorem slen16 {xs : List Int} (h : xs.length = 16) : ∃ a0 a1 a2 a3 a4 a5 a6 a7 a8 a9 a10 a11 a12 a13 a14 a15, xs = [a0, a1, a2, a3, a4, a5, a6, a7, a8, a9, a10, a11, a12, a13, a14, a15] := by
  match xs, h with
  | [a0, a1, a2, a3, a4, a5, a6, a7, a8, a9, a10, a11, a12, a13, a14, a15], _ => exact ⟨a0, a1, a2, a3, a4, a5, a6, a7, a8, a9, a10, a11, a12, a13, a14, a15, rfl⟩
theorem build_sg {id : List Int} (h : id.length = 16) (k : Int) (w : World) :
    (Instr.build 34 [(0, .int .u8 k), (1, .agg (ints .u8 id).toArray)].toArray).run Try.prog w = .ok (.agg ({ Sg.zero with kind := k, id := id } : Sg).cells.toArray) w := by
  obtain ⟨a0, a1, a2, a3, a4, a5, a6, a7, a8, a9, a10, a11, a12, a13, a14, a15, rfl⟩ := slen16 h
  kernel_rfl
theorem Sg.len2 {k ca cd ce n rs : Int} {id key data : List Int} {da : Option Addr} {dc : Nat} (h : id.length = 16) (hk : key.length = 32) : (Sg.mk k id ca cd ce key n da dc data rs).cells.length = 55 := by simp [Sg.cells, ints_length, h, hk]
theorem zrep (n : Nat) : Bytes (List.replicate n 0) := fun x h => by
  have := List.eq_of_mem_replicate h
  omega
theorem zero_sg : Sg.zero.ok := ⟨by decide, rfl, zrep 16, by decide, by decide, by decide, rfl, zrep 32, by decide, (fun _ h => by cases h), by decide⟩
theorem RdS.nil8 {w : World} {T : Pm} : RdS w T (.slice none 0 0) 1 0 (ints .u8 []) := fun w' _ => Rd.nil w' 1
theorem may_ref (s : Sg) : mayS s = if s.kind = 1 then !(decide (7 < s.ca) || decide (3 < s.cd) || decide (7 < s.ce)) && sameS s (Sg.mk s.kind s.id s.ca s.cd s.ce s.key 0 none 0 [] 0)
    else if s.kind = 2 then sameS s (Sg.mk s.kind s.id 0 0 0 s.key 0 none 0 [] 0)
    else if s.kind = 3 then !decide (1024 < (s.data.length : Int)) && sameS s (Sg.mk s.kind s.id 0 0 0 zero32 s.n s.da s.dc s.data 0)
    else if s.kind = 4 then sameS s (Sg.mk s.kind s.id 0 0 0 zero32 0 none 0 [] 0)
    else if s.kind = 6 then sameS s (Sg.mk s.kind s.id 0 0 0 zero32 0 none 0 [] 0)
    else if s.kind = 5 then !(decide (s.rs < 1) || decide (4 < s.rs)) && sameS s (Sg.mk s.kind s.id 0 0 0 zero32 0 none 0 [] s.rs)
    else false := by
  have hd : s.data = [] ↔ s.data.length = 0 := List.length_eq_zero_iff.symm
  unfold mayS bad2 bad4 bad6 sameS
  dsimp only
  by_cases k1 : s.kind = 1
  · rw [if_pos k1, if_neg (by omega), Bool.eq_iff_iff]
    by_cases hk : s.key = zero32 <;> simp [k1, hk, hd, -List.length_eq_zero_iff] <;> omega
  rw [if_neg k1]
  by_cases k2 : s.kind = 2
  · rw [if_pos k2, if_neg (by omega), Bool.eq_iff_iff]
    by_cases hk : s.key = zero32 <;> simp [k2, hk, hd, -List.length_eq_zero_iff] <;> omega
  rw [if_neg k2]
  by_cases k3 : s.kind = 3
  · rw [if_pos k3, if_neg (by omega), Bool.eq_iff_iff]
    by_cases hk : s.key = zero32 <;> simp [k3, hk, hd, -List.length_eq_zero_iff] <;> omega
  rw [if_neg k3]
  by_cases k4 : s.kind = 4
  · rw [if_pos k4, if_neg (by omega), Bool.eq_iff_iff]
    by_cases hk : s.key = zero32 <;> simp [k4, hk, hd, -List.length_eq_zero_iff] <;> omega
  rw [if_neg k4]
  by_cases k6 : s.kind = 6
  · rw [if_pos k6, if_neg (by omega), Bool.eq_iff_iff]
    by_cases hk : s.key = zero32 <;> simp [k6, hk, hd, -List.length_eq_zero_iff] <;> omega
  rw [if_neg k6]
  by_cases k5 : s.kind = 5
  · rw [if_pos k5, if_pos k5, Bool.eq_iff_iff]
    by_cases hk : s.key = zero32 <;> simp [k5, hk, hd, -List.length_eq_zero_iff] <;> omega
  rw [if_neg k5, if_neg k5]
  have e : (decide (s.kind < 1) || decide (6 < s.kind)) = true := by simp; omega
  rw [e]; rfl
end Go.Proofs.Ytnmeoleahcnnkaa
