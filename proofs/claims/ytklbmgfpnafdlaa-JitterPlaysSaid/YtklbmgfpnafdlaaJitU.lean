/- JitterPlays: the document's list beside the buffer's map; a buffer played: in plain Lean. -/
import Derived.Test.YtklbmgfpnafdlaaJitW
import Derived.Test.YtklbmgfpnafdlaaJitG
import Derived.Test.YtklbmgfpnafdlaaSoLV
namespace Go.Proofs.Ytklbmgfpnafdlaa
open Go Go.RowKit
/-- The document's list beside the buffer's map. -/
structure Same (L : List (Int × Int)) (m : List (Int × Value)) : Prop where
  perm : (mapW L).Perm m
  srt : L.Pairwise (fun p q => p.1 < q.1)
theorem Same.nd {L : List (Int × Int)} {m : List (Int × Value)} (h : Same L m) : mnd L := h.srt.imp fun h => by omega
theorem mapW_nd {L : List (Int × Int)} (h : mnd L) : mnd (mapW L) := List.pairwise_map.2 (h.imp fun h => h)
theorem Same.ndm {L : List (Int × Int)} {m : List (Int × Value)} (h : Same L m) : mnd m := by
  have := mapW_nd h.nd
  unfold mnd at this ⊢
  exact (h.perm.pairwise_iff (fun h => fun e => h e.symm)).1 this
theorem Same.len {L : List (Int × Int)} {m : List (Int × Value)} (h : Same L m) : m.length = L.length := by
  rw [← h.perm.length_eq, mapW_len]
theorem mget_perm {m m' : List (Int × Value)} (hp : m.Perm m') (h1 : mnd m) (h2 : mnd m') (c : Int) : mget m c = mget m' c := by
  apply Option.ext
  intro u
  rw [mget_some h1, mget_some h2]
  exact hp.mem_iff
theorem Same.get {L : List (Int × Int)} {m : List (Int × Value)} (h : Same L m) (c : Int) : mget m c = (mget L c).map vW := by
  rw [← mapW_get]
  exact (mget_perm h.perm (mapW_nd h.nd) h.ndm c).symm
theorem Same.nil : Same [] [] := ⟨List.Perm.nil, List.Pairwise.nil⟩
theorem same_ins {L : List (Int × Int)} {m : List (Int × Value)} (h : Same L m) {at' : Nat} {c x : Int} (hlo : ∀ j p, j < at' → L[j]? = some p → p.1 < c) (hhi : ∀ p, L[at']? = some p → ¬ p.1 < c) (hno : mget m c = none) :
    Same (L.take at' ++ (c, x) :: L.drop at') (mput m c (vW x)) := by
  have hnoL : ∀ p ∈ L, p.1 ≠ c := by
    refine mget_none.1 ?_
    have := h.get c
    rw [hno] at this
    cases e : mget L c with
    | none => rfl
    | some v => rw [e] at this; cases this
  have hsp := h.srt
  rw [← List.take_append_drop at' L] at hsp
  obtain ⟨s1, s2, s3⟩ := List.pairwise_append.1 hsp
  have hdr : ∀ q ∈ L.drop at', c < q.1 := by
    intro q hq
    cases e : L.drop at' with
    | nil => rw [e] at hq; cases hq
    | cons p l =>
      have hp : L[at']? = some p := by
        have := congrArg (fun l => l[0]?) e
        simpa using this
      have h1 := hhi p hp
      have h2 := hnoL p (List.mem_of_getElem? hp)
      rw [e] at hq s2
      rcases List.mem_cons.1 hq with rfl | hq
      · omega
      · have := (List.pairwise_cons.1 s2).1 q hq
        omega
  have htk : ∀ p ∈ L.take at', p.1 < c := by
    intro p hp
    obtain ⟨j, hj⟩ := List.mem_iff_getElem?.1 hp
    rw [List.getElem?_take] at hj
    split at hj
    · rename_i hlt
      exact hlo j p hlt hj
    · cases hj
  refine ⟨?_, ?_⟩
  · have e : mput m c (vW x) = m ++ [(c, vW x)] := by unfold mput; rw [hno]; rfl
    rw [e]
    have e2 : (mapW (L.take at' ++ (c, x) :: L.drop at')).Perm (mapW L ++ [(c, vW x)]) := by
      unfold mapW
      rw [List.map_append, List.map_cons]
      refine List.perm_middle.trans ?_
      refine List.Perm.trans ?_ List.perm_append_comm
      rw [← List.map_append, List.take_append_drop]
      rfl
    exact e2.trans (h.perm.append_right _)
  · refine List.pairwise_append.2 ⟨s1, List.pairwise_cons.2 ⟨fun q hq => hdr q hq, s2⟩, fun p hp q hq => ?_⟩
    rcases List.mem_cons.1 hq with rfl | hq
    · exact htk p hp
    · exact s3 p hp q hq
theorem same_del {L : List (Int × Int)} {m : List (Int × Value)} (h : Same L m) {i : Nat} {p : Int × Int} (hp : L[i]? = some p) :
    Same (L.take i ++ L.drop (i + 1)) (mdel m p.1) := by
  have e : L.take i ++ L.drop (i + 1) = mdel L p.1 := by
    have hsp := h.srt
    have hd : L.drop i = p :: L.drop (i + 1) := by
      rw [List.drop_eq_getElem?_toList_append, hp]; rfl
    rw [← List.take_append_drop i L, hd] at hsp
    obtain ⟨s1, s2, s3⟩ := List.pairwise_append.1 hsp
    have s2 := List.pairwise_cons.1 s2
    have : mdel L p.1 = mdel (L.take i ++ p :: L.drop (i + 1)) p.1 := by rw [← hd, List.take_append_drop]
    rw [this]
    unfold mdel
    rw [List.filter_append, List.filter_cons]
    rw [if_neg (by simp), List.filter_eq_self.2, List.filter_eq_self.2]
    · intro q hq
      have := s2.1 q hq
      simp; omega
    · intro q hq
      have := s3 q hq p (List.mem_cons_self ..)
      simp; omega
  rw [e]
  refine ⟨?_, h.srt.filter _⟩
  rw [← mapW_del]
  exact h.perm.filter _
theorem same_asc {L : List (Int × Int)} {m : List (Int × Value)} (h : Same L m) : asc (m.map (·.1)) = L.map (·.1) := by
  have hp : (asc (m.map (·.1))).Perm (L.map (·.1)) := by
    refine (asc_perm _).trans ?_
    have := h.perm.symm.map (·.1)
    refine this.trans ?_
    unfold mapW
    rw [List.map_map]
    exact List.Perm.refl _
  refine hp.eq_of_pairwise (fun a b _ _ h1 h2 => by omega) (asc_sorted _) (List.pairwise_map.2 (h.srt.imp fun h => by omega))
/-! ### Played -/
def gN (B : Jb) : Nat → Jb
  | 0 => B
  | k + 1 => (gN B k).step
structure Jb.Fwd (B : Jb) : Prop where
  ok : B.ok
  lo : ∀ p ∈ B.m, B.nx ≤ p.1
  ov : B.ov = true → B.m = []
  so : B.so = false → B.m = []
theorem Jb.init_fwd {d s : Int} (hd : U6 d) (hs : U6 s) : (Jb.init d s).Fwd := ⟨Jb.init_ok hd hs, (fun _ h => nomatch h), fun _ => rfl, fun _ => rfl⟩
theorem Jb.put_fwd {B : Jb} (h : B.Fwd) {ctr now : Int} {x : Value} (hc : U6 ctr) (hn : U6 now) : (B.put ctr now x).1.Fwd := by
  have hk := Jb.put_ok (x := x) h.ok hc hn
  unfold Jb.put at hk ⊢
  have h1 : (B.some1 ctr now).so = true ∧ (∀ p ∈ (B.some1 ctr now).m, (B.some1 ctr now).nx ≤ p.1) ∧ ((B.some1 ctr now).ov = true → (B.some1 ctr now).m = []) := by
    unfold Jb.some1
    by_cases hs : B.so = true
    · rw [if_pos hs]; exact ⟨hs, h.lo, h.ov⟩
    · rw [if_neg hs]
      have := h.so (by simpa using hs)
      exact ⟨rfl, (fun p hp => by
        replace hp : p ∈ B.m := hp
        rw [this] at hp
        cases hp), fun _ => this⟩
  obtain ⟨B1, hB1⟩ : ∃ B1, B.some1 ctr now = B1 := ⟨_, rfl⟩
  rw [hB1] at hk h1 ⊢
  obtain ⟨a, b, c⟩ := h1
  unfold Jb.put0 at hk ⊢
  split at hk <;> rename_i c1
  · simp only [c1, if_true]; exact ⟨hk, b, c, fun e => by rw [show B1.so = false from e] at a; cases a⟩
  · simp only [c1, if_false, Bool.false_eq_true]
    split at hk <;> rename_i c2
    · simp only [c2, if_true]; exact ⟨hk, b, c, fun e => by rw [show B1.so = false from e] at a; cases a⟩
    · simp only [c2, if_false, Bool.false_eq_true]
      split at hk <;> rename_i c3
      · simp only [c3, if_true]; exact ⟨hk, b, c, fun e => by rw [show B1.so = false from e] at a; cases a⟩
      · simp only [c3, if_false]
        unfold Jb.late at c1
        simp at c1
        refine ⟨hk, fun p hp => ?_, fun e => by rw [show B1.ov = true from e] at c1; exact absurd c1.1 (by decide), fun e => by rw [show B1.so = false from e] at a; cases a⟩
        rcases mput_mem.1 hp with rfl | ⟨hp, _⟩
        · exact c1.2
        · exact b p hp
theorem Jb.step_fwd {B : Jb} (h : B.Fwd) (hm : B.m ≠ []) : B.step.Fwd ∧ B.step.so = true := by
  have hs : B.so = true := by
    cases e : B.so with
    | true => rfl
    | false => exact absurd (h.so e) hm
  have hnx := h.ok.nx
  refine ⟨⟨Jb.step_ok h.ok, fun p hp => ?_, fun e => ?_, fun e => by rw [show B.so = false from e] at hs; cases hs⟩, hs⟩
  · obtain ⟨h1, h2⟩ := mdel_mem.1 (show p ∈ mdel B.m B.nx from hp)
    have h3 := h.lo p h1
    have h4 := h.ok.m p h1
    show wr (B.nx + 1) ≤ p.1
    have := h4.2
    rw [wr_in ⟨by have := hnx.1; omega, by omega⟩]
    omega
  · have e := of_decide_eq_true (show decide (wr (B.nx + 1) = 0) = true from e)
    show mdel B.m B.nx = []
    refine List.eq_nil_iff_forall_not_mem.2 fun p hp => ?_
    obtain ⟨h1, h2⟩ := mdel_mem.1 hp
    have h3 := h.lo p h1
    have h4 := h.ok.m p h1
    unfold wr at e
    rw [IntKind.wrap_u64] at e
    have := hnx.1
    have := h4.2
    omega
theorem isDue_ne {B : Jb} {now : Int} (h : B.isDue now = true) : B.m ≠ [] := fun e => by
  unfold Jb.isDue at h
  rw [e] at h
  cases h
theorem gN_add (B : Jb) : ∀ k, gN B.step k = gN B (k + 1)
  | 0 => rfl
  | k + 1 => congrArg Jb.step (gN_add B k)
theorem run_ends (now : Int) : ∀ (n : Nat) (B : Jb), B.Fwd → (∀ p ∈ B.m, p.1 < B.nx + n) → ∃ K, K ≤ n ∧ (∀ k, k < K → (gN B k).isDue now = true) ∧ (gN B K).isDue now = false ∧ (∀ k, k ≤ K → (gN B k).Fwd)
  | 0, B, h, hb => by
    have hm : B.m = [] := List.eq_nil_iff_forall_not_mem.2 fun p hp => by
      have h1 := hb p hp
      have h2 := h.lo p hp
      omega
    refine ⟨0, Nat.le_refl _, fun k hk => absurd hk (by omega), ?_, fun k hk => ?_⟩
    · show B.isDue now = false
      unfold Jb.isDue
      rw [hm]
      rfl
    · obtain rfl : k = 0 := by omega
      exact h
  | n + 1, B, h, hb => by
    by_cases hd : B.isDue now = true
    · have hm := isDue_ne hd
      obtain ⟨h1, h2⟩ := Jb.step_fwd h hm
      obtain ⟨K, k1, k2, k3, k4⟩ := run_ends now n B.step h1 (fun p hp => by
        obtain ⟨q1, q2⟩ := mdel_mem.1 (show p ∈ mdel B.m B.nx from hp)
        have a1 := hb p q1
        have a2 := h.lo p q1
        have a3 := (h.ok.m p q1).2
        have a4 := h.ok.nx.1
        show p.1 < wr (B.nx + 1) + n
        rw [wr_in ⟨by omega, by omega⟩]
        omega)
      refine ⟨K + 1, by omega, fun k hk => ?_, by rw [← gN_add]; exact k3, fun k hk => ?_⟩
      · cases k with
        | zero => exact hd
        | succ k => rw [← gN_add]; exact k2 k (by omega)
      · cases k with
        | zero => exact h
        | succ k => rw [← gN_add]; exact k4 k (by omega)
    · refine ⟨0, Nat.zero_le _, fun k hk => absurd hk (by omega), ?_, fun k hk => ?_⟩
      · show B.isDue now = false
        simpa using hd
      · obtain rfl : k = 0 := by omega
        exact h
/-- Which are lost; how many aren't. -/
def loK (B : Jb) (k : Nat) : Bool := !(mget (gN B k).m (gN B k).nx).isSome
def xK (B : Jb) (z : Value) (k : Nat) : Value := (mget (gN B k).m (gN B k).nx).getD z
def cntK (B : Jb) (k : Nat) : Nat := ((List.range k).filter fun j => !loK B j).length
def posK (B : Jb) (K i : Nat) : Nat := ((List.range K).filter fun j => !loK B j).getD i 0
def ysP (B : Jb) (z : Value) (K : Nat) : List (Array Value) := ((List.range K).filter fun j => !loK B j).map fun j => #[.int .u64 (gN B j).nx, xK B z j]
theorem cntK_succ (B : Jb) (k : Nat) : cntK B (k + 1) = cntK B k + (if loK B k then 0 else 1) := by
  unfold cntK
  rw [List.range_succ, List.filter_append, List.length_append]
  cases h : loK B k <;> simp [List.filter_cons, h]
theorem filt_at (f : Nat → Bool) {K k : Nat} (hk : k < K) (hf : f k = true) : ((List.range K).filter f)[((List.range k).filter f).length]? = some k := by
  obtain ⟨n, rfl⟩ : ∃ n, K = k + 1 + n := ⟨K - (k + 1), by omega⟩
  rw [List.range_add, List.range_succ, List.append_assoc, List.filter_append, List.getElem?_append_right (Nat.le_refl _), Nat.sub_self, List.singleton_append, List.filter_cons, if_pos hf]
  rfl
theorem play_any {B : Jb} (h : B.Fwd) (now : Int) (z : Value) : ∃ K, PlayS now z (gN B) K (xK B z) (fun k => (gN B k).nx) (loK B) (cntK B) (posK B K) (ysP B z K) ∧ (∀ k, k ≤ K → (gN B k).Fwd) := by
  obtain ⟨K, _, k2, k3, k4⟩ := run_ends now 18446744073709551616 B h (fun p hp => by
    have := h.ok.nx.1
    have := (h.ok.m p hp).2
    show p.1 < B.nx + (18446744073709551616 : Int)
    omega)
  refine ⟨K, ⟨fun k hk => (k4 k hk).ok, fun k hk => ?_, ?_, rfl, fun k _ => cntK_succ B k, ?_, fun k hk hl => ?_⟩, k4⟩
  · unfold Jb.next
    rw [if_pos (k2 k hk)]
    rfl
  · unfold Jb.next
    rw [k3]
    rfl
  · unfold cntK ysP
    rw [List.length_map]
  · have hf := filt_at (fun j => !loK B j) hk (by rw [hl]; rfl)
    have hlt := (List.getElem?_eq_some_iff.1 hf).1
    refine ⟨by unfold ysP cntK; rw [List.length_map]; exact hlt, ?_, ?_⟩
    · show (ysP B z K)[cntK B k]? = _
      unfold ysP
      rw [List.getElem?_map, show ((List.range K).filter fun j => !loK B j)[cntK B k]? = some k from hf]
      rfl
    · show posK B K (cntK B k) = k
      unfold posK
      rw [List.getD_eq_getElem?_getD, show ((List.range K).filter fun j => !loK B j)[cntK B k]? = some k from hf]
      rfl
theorem cntK_mono (B : Jb) {j k : Nat} (h : j ≤ k) : cntK B j ≤ cntK B k := by
  induction k with
  | zero =>
    obtain rfl : j = 0 := by omega
    exact Nat.le_refl _
  | succ k ih =>
    by_cases e : j = k + 1
    · rw [e]; exact Nat.le_refl _
    · have := ih (by omega)
      rw [cntK_succ]
      omega
/-- Between two that are told all are lost. -/
theorem lost_between {B : Jb} {K r i j : Nat} (hr : cntK B r = i) (h1 : r ≤ j) (hjK : j < K) (h2 : cntK B j = i → posK B K i ≠ j) (h3 : cntK B j ≤ i) : loK B j = true := by
  cases e : loK B j with
  | true => rfl
  | false =>
    exfalso
    have hm := cntK_mono B h1
    have hc : cntK B j = i := by omega
    refine h2 hc ?_
    have hf := filt_at (fun j => !loK B j) hjK (by rw [e]; rfl)
    rw [← hc]
    unfold posK
    rw [List.getD_eq_getElem?_getD, show ((List.range K).filter fun j => !loK B j)[cntK B j]? = some j from hf]
    rfl
/-- The place of the i-th that is told. -/
theorem pos_at {B : Jb} {z : Value} {K i : Nat} {x : Array Value} (hx : (ysP B z K)[i]? = some x) : posK B K i < K ∧ loK B (posK B K i) = false ∧ cntK B (posK B K i) = i ∧ x = #[.int .u64 (gN B (posK B K i)).nx, xK B z (posK B K i)] := by
  unfold ysP at hx
  rw [List.getElem?_map] at hx
  obtain ⟨p, hp, rfl⟩ := Option.map_eq_some_iff.1 hx
  have hpos : posK B K i = p := by unfold posK; rw [List.getD_eq_getElem?_getD, hp]; rfl
  have hm := List.mem_filter.1 (List.mem_of_getElem? hp)
  have hpK : p < K := List.mem_range.1 hm.1
  have hlo : loK B p = false := by simpa using hm.2
  rw [hpos]
  refine ⟨hpK, hlo, ?_, rfl⟩
  have hf := filt_at (fun j => !loK B j) hpK (by rw [hlo]; rfl)
  have hnd : ((List.range K).filter fun j => !loK B j).Nodup := List.nodup_range.filter _
  have hl1 := (List.getElem?_eq_some_iff.1 hp)
  have hl2 := (List.getElem?_eq_some_iff.1 hf)
  obtain ⟨a1, b1⟩ := hl1
  obtain ⟨a2, b2⟩ := hl2
  rcases Nat.lt_trichotomy (cntK B p) i with h | h | h
  · exact absurd (b2.trans b1.symm) (List.pairwise_iff_getElem.1 hnd _ _ a2 a1 h)
  · exact h
  · exact absurd (b1.trans b2.symm) (List.pairwise_iff_getElem.1 hnd _ _ a1 a2 h)
end Go.Proofs.Ytklbmgfpnafdlaa
