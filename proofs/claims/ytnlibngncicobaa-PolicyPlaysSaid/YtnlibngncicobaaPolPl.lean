/- Policies: bytes loaded again, places taken out: plain laws; what is done. -/
import Derived.Test.YtnlibngncicobaaPolLw
import Derived.Test.YtnlibngncicobaaLibM
import Derived.Test.YtnlibngncicobaaLibZ
namespace Go.Proofs.Ytnlibngncicobaa
open Go Go.RowKit
theorem rA_enc {r : Ru} (hr : r.ok) (T : List Int) : gA (encU r ++ T) 0 = true ∧ rA (encU r ++ T) 0 = r := by
  rw [encU_is hr]
  cases r with
  | mk acc fr tt dO ag =>
    constructor
    · cases ag <;> rfl
    · show (⟨acc, 256 * (fr / 256) + fr % 256, 256 * (tt / 256) + tt % 256, dO, decide ((if ag then (1 : Int) else 0) = 1)⟩ : Ru) = _
      have e1 : 256 * (fr / 256) + fr % 256 = fr := by omega
      have e2 : 256 * (tt / 256) + tt % 256 = tt := by omega
      rw [e1, e2]
      cases ag <;> rfl
theorem rlB_cons (r : Ru) (l : List Ru) : rlB (r :: l) = encU r ++ rlB l := rfl
theorem rlB_drop : ∀ (l : List Ru) (j : Nat), (rlB l).drop (11 * j) = rlB (l.drop j)
  | [], j => by simp [rlB]
  | r :: l, 0 => by simp
  | r :: l, j + 1 => by
    rw [rlB_cons, List.drop_succ_cons, ← rlB_drop l j, List.drop_append, encU_len, List.drop_of_length_le (by rw [encU_len]; omega), List.nil_append, show 11 * (j + 1) - 11 = 11 * j by omega]
theorem encU_bytes {r : Ru} (hr : r.ok) : Bytes (encU r) := by
  have h1 := hr.acc
  have h2 := hr.dO
  unfold encU
  refine (((Bytes.app ?_ ((Bytes.be _ _).app (Bytes.be _ _))).app ?_).app ?_)
  · intro x hx; rw [List.mem_singleton.1 hx]; exact h1
  · intro x hx; rw [List.mem_singleton.1 hx]; exact h2
  · intro x hx
    unfold flagB at hx
    rw [List.mem_singleton.1 hx]
    split <;> omega
theorem rlB_bytes {l : List Ru} (h : UOk l) : Bytes (rlB l) := by
  intro x hx
  obtain ⟨bs, hb, hx⟩ := List.mem_flatten.1 hx
  obtain ⟨r, hr, rfl⟩ := List.mem_map.1 hb
  exact encU_bytes (h r hr) x hx
theorem polB_bytes {p : Po} (hp : p.ok) : Bytes (polB p) := by
  have h1 := hp.df
  unfold polB
  refine ((Bytes.app ?_ (Bytes.be _ _)).app (rlB_bytes (UOk.of hp)))
  intro x hx
  rw [List.mem_singleton.1 hx]
  omega
theorem polB_at {p : Po} (hp : p.ok) {j : Nat} {r : Ru} (h : p.rl[j]? = some r) : gA (polB p) (3 + 11 * j) = true ∧ rA (polB p) (3 + 11 * j) = r := by
  have hr := (UOk.of hp).get h
  have hd : (polB p).drop (3 + 11 * j) = encU r ++ rlB (p.rl.drop (j + 1)) := by
    obtain ⟨hl, he⟩ := List.getElem?_eq_some_iff.1 h
    have h3 : (polB p).drop 3 = rlB p.rl := by
      unfold polB
      rw [List.drop_append, List.drop_of_length_le (by simp [be_len])]
      simp [be_len]
    rw [← List.drop_drop, h3, rlB_drop, List.drop_eq_getElem_cons hl, he, rlB_cons]
  obtain ⟨h1, h2⟩ := rA_enc hr (rlB (p.rl.drop (j + 1)))
  rw [← hd] at h1 h2
  refine ⟨?_, by rw [← h2, rA_drop]; rfl⟩
  rw [← h1]
  unfold gA
  simp only [getD_drop, Nat.add_assoc, Nat.zero_add]
theorem polB_load {p : Po} (hp : p.ok) : rOk (polB p) = true ∧ ldP (polB p) = { Po.new p.df with rl := p.rl } := by
  have hlen := polB_len p
  have hln := hp.len
  have hdf := hp.df
  have hb2 : be (p.rl.length : Int) 2 = [0, (p.rl.length : Int)] := by
    unfold be beK
    simp [List.range_succ]
    omega
  have g0 : (polB p).getD 0 0 = p.df := rfl
  have g12 : (polB p).getD 1 0 = 0 ∧ (polB p).getD 2 0 = (p.rl.length : Int) := by
    unfold polB
    rw [hb2]
    exact ⟨rfl, rfl⟩
  have hok : rOk (polB p) = true := by
    unfold rOk rHd telU
    rw [g0, g12.1, g12.2, Int.toNat_natCast]
    simp only [Bool.and_eq_true, decide_eq_true_eq, List.all_eq_true]
    refine ⟨⟨⟨⟨⟨by omega, by omega, by omega⟩, by omega⟩, by omega⟩, by omega⟩, fun j hj => ?_⟩
    have hj := List.mem_range.1 hj
    obtain ⟨h1, h2⟩ := polB_at hp (List.getElem?_eq_getElem hj)
    unfold okA
    rw [h1, h2, (hp.rl _ (List.getElem_mem hj)).2]
    rfl
  refine ⟨hok, ?_⟩
  obtain ⟨e1, e2, _⟩ := (ld_main (polB_bytes hp)).2 hok
  have hls : rLs (polB p) = p.rl := by
    unfold rLs
    rw [g12.2, Int.toNat_natCast]
    apply List.ext_getElem?
    intro j
    by_cases hj : j < p.rl.length
    · rw [List.getElem?_map, List.getElem?_range hj, List.getElem?_eq_getElem hj]
      exact congrArg some (polB_at hp (List.getElem?_eq_getElem hj)).2
    · rw [List.getElem?_eq_none (by simp; omega), List.getElem?_eq_none (by omega)]
  unfold ldP
  rw [e1, e2, g0, hls]
/-! ### Places taken out -/
theorem idle_pw (l : List Ru) : (idleU l).Pairwise (· < ·) := List.Pairwise.filter _ List.pairwise_lt_range
theorem idle_lt {l : List Ru} {i : Nat} (h : i ∈ idleU l) : i < l.length := List.mem_range.1 (List.mem_filter.1 h).1
theorem delL_step (l : List Ru) {j x : Nat} (hx : (idleU l)[j]? = some x) : delL l ((idleU l).drop j) = delU (delL l ((idleU l).drop (j + 1))) x ∧ x < (delL l ((idleU l).drop (j + 1))).length := by
  obtain ⟨hl, he⟩ := List.getElem?_eq_some_iff.1 hx
  have hd : (idleU l).drop j = x :: (idleU l).drop (j + 1) := by rw [List.drop_eq_getElem_cons hl, he]
  have hp : (x :: (idleU l).drop (j + 1)).Pairwise (· < ·) := by rw [← hd]; exact (idle_pw l).sublist (List.drop_sublist _ _)
  obtain ⟨h1, h2⟩ := List.pairwise_cons.1 hp
  refine ⟨by rw [hd]; rfl, ?_⟩
  exact (delL_snoc (x := Ru.zero) h2 (fun i hi => idle_lt (List.mem_of_mem_drop hi))).2 x h1 (idle_lt (List.mem_of_getElem? hx))
theorem delU_mem {l : List Ru} {i : Nat} {r : Ru} (h : r ∈ delU l i) : r ∈ l := (List.mem_append.1 h).elim List.mem_of_mem_take List.mem_of_mem_drop
theorem delU_le (l : List Ru) (i : Nat) : (delU l i).length ≤ l.length := by
  unfold delU
  rw [List.length_append, List.length_take, List.length_drop]
  omega
theorem delL_mem : ∀ {g : List Nat} {l : List Ru} {r : Ru}, r ∈ delL l g → r ∈ l
  | [], _, _, h => h
  | _ :: _, _, _, h => delL_mem (delU_mem h)
theorem delL_le : ∀ (g : List Nat) (l : List Ru), (delL l g).length ≤ l.length
  | [], _ => Nat.le_refl _
  | i :: g, l => Nat.le_trans (delU_le (delL l g) i) (delL_le g l)
theorem delL_all (l : List Ru) : delL l ((idleU l).drop 0) = keptU l := del_idle l
theorem delL_none (l : List Ru) : delL l ((idleU l).drop (idleU l).length) = l := by rw [List.drop_length]; rfl
/-! ### What is done -/
structure Doo where
  k : Int
  r : Ru
  z : Int
  a : Nat
  n : Int
def Doo.cells (d : Doo) : List Value := [.int .u8 d.k, .int .u8 d.r.acc, .int .u16 d.r.fr, .int .u16 d.r.tt, .int .u8 d.r.dO, .bool d.r.ag, .int .i64 d.z, .int .u8 (d.a : Int), .int .u64 d.n]
def dooV (d : Doo) : Value := .agg d.cells.toArray
structure Doo.ok (d : Doo) : Prop where
  r : d.r.ok
  n : 0 ≤ d.n ∧ d.n < 18446744073709551616
def Doo.zero : Doo := ⟨0, Ru.zero, 0, 0, 0⟩
theorem Doo.len (d : Doo) : d.cells.length = 9 := rfl
theorem Doo.ones (d : Doo) : ∀ v ∈ d.cells, v.oneCell' = true := by
  intro v hv
  simp [Doo.cells] at hv
  rcases hv with rfl | rfl | rfl | rfl | rfl | rfl | rfl | rfl | rfl <;> rfl
theorem Doo.all (r : Doo) (ys : List Value) (hy : ys.length = 9) : r.cells.take 0 ++ ys ++ r.cells.drop (0 + 9) = ys := by
  rw [List.take_zero, List.nil_append, List.drop_of_length_le (by rw [Doo.len]; omega), List.append_nil]
theorem vtD : VT Try.prog 44 9 Doo.ok dooV := .agg (cel := Doo.cells) (by kernel_rfl) (by kernel_rfl) (by decide) (fun _ => rfl) (fun d _ => Doo.len d) (fun d => Doo.ones d)
def DOk (l : List Doo) : Prop := ∀ d ∈ l, d.ok
def dooLeaf : List Leaf := [some .u8, some .u8, some .u16, some .u16, some .u8, none, some .i64, some .u8, some .u64]
theorem Doo.of_fits {cs : List Value} (h : Fits1 dooLeaf cs) : ∃ d : Doo, d.ok ∧ cs = d.cells := by
  match cs, h with
  | [.int q0 k, .int q1 a, .int q2 b, .int q3 c, .int q4 d, .bool e, .int q5 z, .int q6 ac, .int q7 n], h =>
    obtain ⟨⟨rfl, w0⟩, ⟨rfl, w1⟩, ⟨rfl, w2⟩, ⟨rfl, w3⟩, ⟨rfl, w4⟩, _, ⟨rfl, w5⟩, ⟨rfl, w6⟩, ⟨rfl, w7⟩, _⟩ := h
    have h6 := wf_u8 w6
    exact ⟨⟨k, ⟨a, b, c, d, e⟩, z, ac.toNat, n⟩, ⟨⟨wf_u8 w1, wf_u16 w2, wf_u16 w3, wf_u8 w4⟩, wf_u64 w7⟩, by unfold Doo.cells; dsimp only; rw [Int.toNat_of_nonneg h6.1]⟩
section
variable {P : Program} {w : World} {base : Nat} {sp : Nat → Bool} {held : Bool} {H : Type} {enc : TypeId × Value → H}
theorem open_dos {t e : TypeId} {a : Option Addr} {len cap : Nat} {x : DataW H} {p : List MemPlace} (ht : P.underlying t = some (.slice e)) (hf : flatT P 5 e = some dooLeaf) (hc : P.cellsOf e = 9)
    (h : DataW.Trod enc P w base sp held t (.slice a len cap) x p) : ∃ rs : List Doo, rs.length = len ∧ DOk rs ∧ Rd w 9 (.slice a len cap) len (vcs dooV rs) := by
  obtain ⟨xss, h1, h2, h3⟩ := open_flats (d := 5) (ks := dooLeaf) ht hf hc h
  have : ∃ rs : List Doo, xss = rs.map Doo.cells ∧ DOk rs := by
    clear h1 h3
    induction xss with
    | nil => exact ⟨[], rfl, fun x hx => nomatch hx⟩
    | cons ys xss ih =>
      obtain ⟨rs, rfl, hrs⟩ := ih (fun zs hz => h2 zs (by simp [hz]))
      obtain ⟨r, hr, rfl⟩ := Doo.of_fits (h2 ys (by simp)).1
      exact ⟨r :: rs, rfl, fun z hz => by
        rcases List.mem_cons.1 hz with rfl | hz
        · exact hr
        · exact hrs z hz⟩
  obtain ⟨rs, rfl, hrs⟩ := this
  refine ⟨rs, by simpa using h1, hrs, ?_⟩
  have e1 : (rs.map Doo.cells).flatten = vcs dooV rs := by
    clear h1 h2 h3 hrs
    induction rs with
    | nil => rfl
    | cons y ys ih => rw [List.map_cons, List.flatten_cons, ih, vcs_cons]; simp [dooV, Value.cells]
  rwa [e1] at h3
end
end Go.Proofs.Ytnlibngncicobaa

namespace Go.Proofs.Ytnlibngncicobaa
open Go Go.RowKit
structure PSt where
  bp : Nat
  ao : Option Addr
  ca : Nat
  bq : Nat
  ao2 : Option Addr
  ca2 : Nat
  p : Po
theorem sameK_any (b : Nat) (ao : Option Addr) (ca : Nat) (b2 : Nat) (ao2 : Option Addr) (ca2 : Nat) (p : Po) (hp : p.ok) (w : World) (hw : OK w (fpL [blkR b 80 (p.cells (.slice ao p.rl.length ca)), rdR (.slice ao p.rl.length ca) 5 p.rl.length (vcs ruV p.rl), blkR b2 42 (p.rcells (.slice ao2 p.rl.length ca2)), rdR (.slice ao2 p.rl.length ca2) 5 p.rl.length (vcs ruV p.rl)]) [blkR b 80 (p.cells (.slice ao p.rl.length ca)), rdR (.slice ao p.rl.length ca) 5 p.rl.length (vcs ruV p.rl), blkR b2 42 (p.rcells (.slice ao2 p.rl.length ca2)), rdR (.slice ao2 p.rl.length ca2) 5 p.rl.length (vcs ruV p.rl)] w) :
    Fn Try.prog 27 [.pointer (some ⟨b, 0, none⟩), .pointer (some ⟨b2, 0, none⟩)] [blkR b 80 (p.cells (.slice ao p.rl.length ca)), rdR (.slice ao p.rl.length ca) 5 p.rl.length (vcs ruV p.rl), blkR b2 42 (p.rcells (.slice ao2 p.rl.length ca2)), rdR (.slice ao2 p.rl.length ca2) 5 p.rl.length (vcs ruV p.rl)] w (fun _ : Unit => True) (fun _ => .bool true) (fun _ => [blkR b 80 (p.cells (.slice ao p.rl.length ca)), rdR (.slice ao p.rl.length ca) 5 p.rl.length (vcs ruV p.rl), blkR b2 42 (p.rcells (.slice ao2 p.rl.length ca2)), rdR (.slice ao2 p.rl.length ca2) 5 p.rl.length (vcs ruV p.rl)]) :=
  Fn.keep (fun hw => same_any b ao ca b2 ao2 ca2 p p hp rfl rfl w hw) hw
theorem rnoteC1 {p : Po} (h : p.sz) (v : Value) {j : Nat} (hj : j < 8) (now : Int) : ((p.rcells v).set (0 + 2 + j * 1) (.bool true)).set (0 + 10 + j * 1) (.int .u64 now) = ({ p with no := p.no.set j true, la := p.la.set j now } : Po).rcells v := by
  have e1 : 0 + 2 + j * 1 = (j + 1) + 1 := by omega
  have e2 : 0 + 10 + j * 1 = (8 + j + 1) + 1 := by omega
  rw [e1, e2]
  unfold Po.rcells
  rw [List.set_cons_succ, List.set_cons_succ, List.set_cons_succ, List.set_cons_succ, List.set_append_left _ _ (by rw [List.length_map, h.no]; omega), List.set_append_right _ _ (by rw [List.length_set, List.length_map, h.no]; omega), List.length_set, List.length_map, h.no, Nat.add_sub_cancel_left]
  simp [ints, List.map_set]
theorem rnoteC2 {p : Po} (h : p.sz) (v : Value) {j : Nat} (hj : j < 8) (now : Int) : ((p.rcells v).set (0 + 10 + j * 1) (.int .u64 now)).set (0 + 2 + j * 1) (.bool true) = ({ p with no := p.no.set j true, la := p.la.set j now } : Po).rcells v := by
  rw [List.set_comm _ _ (by omega)]
  exact rnoteC1 h v hj now
theorem remP_at {p : Po} {L : List Ru} {x : Nat} (h : x < L.length) : remP { p with rl := L } (x : Int) = { p with rl := delU L x } := by
  unfold remP
  dsimp only
  rw [if_neg (by omega), Int.toNat_natCast]
theorem natI_get {G : List Nat} {i x : Nat} (h : G[i]? = some x) : (ints .i64 (natI G))[i]? = some (.int .i64 (x : Int)) := by
  unfold ints natI
  rw [List.getElem?_map, List.getElem?_map, h]
  rfl
set_option maxRecDepth 100000 in
theorem playsNo_any (d : Int) (al : Option Addr) (cl : Nat) (l : List Doo) (hd : telU d = false) (w : World) (hw : OK w (fpL [rdR (.slice al l.length cl) 9 l.length (vcs dooV l)]) [rdR (.slice al l.length cl) 9 l.length (vcs dooV l)] w) :
    Fn Try.prog 4 [.int .u8 d, .slice al l.length cl] [rdR (.slice al l.length cl) 9 l.length (vcs dooV l)] w (fun _ : Unit => True) (fun _ => .bool true) (fun _ => []) := by
  have hdd : ¬ (1 ≤ d ∧ d ≤ 3) := by
    unfold telU at hd
    simpa using hd
  refine enterF Try.func4 rfl Try.ntmps4 rfl hw ?_
  refine WC.seq ?_
  refine WC.region ?_
  refine WL.y (Yl.assign rfl) rfl ?_
  refine WL.nil ?_
  refine WC.seq ?_
  refine WC.seq ?_
  refine WC.region ?_
  refine WL.callC (xs := []) (cap := []) rfl rfl en8 (by repeat (first | exact TakeL.nil | (apply TakeL.cons; · repeat (first | exact Take1.head | apply Take1.tail)))) (fun w hw => known_any w hw.left.here) rfl ?_
  rintro ⟨⟩ -
  refine WL.y (Yl.not rfl) rfl ?_
  refine WL.know (t := 20) (b' := false) rfl (by first | rfl | (simp; done) | (simp; omega)) ?_
  refine WL.nil ?_
  refine WC.condF rfl (by first | rfl | (simp; done) | (simp; omega)) ?_
  refine WC.skip ?_
  refine WC.seq ?_
  refine WC.seq ?_
  refine WC.region ?_
  refine WL.y (Yl.move rfl) rfl ?_
  refine WL.y (Yl.len un32 rfl) rfl ?_
  refine WL.y (Yl.gtr rfl rfl) rfl ?_
  refine WL.nil ?_
  refine WC.condD rfl (fun g23 => ?_) (fun g23 => ?_)
  · refine WC.seq ?_
    refine WC.region ?_
    refine WL.y (Yl.assign rfl) rfl ?_
    refine WL.nil ?_
    refine WC.ret ?_
    repeat (first | (with_reducible refine peelT ?_) | (with_reducible refine peelB ?_) | (with_reducible refine peelTX ?_) | (with_reducible refine peelBX ?_) | (with_reducible refine peelBN ?_) | (with_reducible refine peelBO rfl ?_))
    exact ret1 (.inr rfl) Try.results4 rfl fun w' h => ⟨(), trivial, rfl, h.sub (by repeat (first | exact TakeL.nil | (apply TakeL.cons; · repeat (first | exact Take1.head | apply Take1.tail))))⟩
  · refine WC.skip ?_
    refine WC.seq ?_
    refine WC.region ?_
    refine WL.y (Yl.move rfl) rfl ?_
    refine WL.callC (xs := [.tmp 25]) (cap := []) rfl rfl en13 (by repeat (first | exact TakeL.nil | (apply TakeL.cons; · repeat (first | exact Take1.head | apply Take1.tail)))) (fun w hw => newBad_any d hd w hw.left.here) rfl ?_
    rintro ⟨⟩ -
    refine WL.y (Yl.move rfl) rfl ?_
    refine WL.y (Yl.extract rfl rfl) rfl ?_
    refine WL.y (Yl.extract rfl rfl) rfl ?_
    refine WL.y (Yl.assign rfl) rfl ?_
    refine WL.y (Yl.assign rfl) rfl ?_
    refine WL.nil ?_
    refine WC.seq ?_
    refine WC.seq ?_
    refine WC.region ?_
    refine WL.y (Yl.move rfl) rfl ?_
    refine WL.y (Yl.lss rfl rfl) rfl ?_
    refine WL.y (Yl.move rfl) rfl ?_
    refine WL.both (t := 31) rfl (fun g31 => ?_) (fun g31 => ?_)
    · refine WL.off rfl rfl rfl rfl ?_
      refine WL.off rfl rfl rfl rfl ?_
      refine WL.y (Yl.pickT rfl rfl) rfl ?_
      refine WL.nil ?_
      refine WC.condT rfl (by first | rfl | (simp; done) | (simp; omega)) ?_
      refine WC.seq ?_
      refine WC.region ?_
      refine WL.y (Yl.move rfl) rfl ?_
      refine WL.y (Yl.nilEq un33 rfl rfl) rfl ?_
      refine WL.know (t := 36) (b' := true) rfl (by first | rfl | (simp; done) | (simp; omega)) ?_
      refine WL.y (Yl.move rfl) rfl ?_
      refine WL.know (t := 37) (b' := true) rfl (by first | rfl | (simp; done) | (simp; omega)) ?_
      refine WL.on rfl rfl ?_
      refine WL.y (Yl.move rfl) rfl ?_
      refine WL.on rfl rfl ?_
      refine WL.y (Yl.eql rfl rfl) rfl ?_
      refine WL.know (t := 39) (b' := true) rfl (by first | rfl | (simp; done) | (simp; omega)) ?_
      refine WL.y (Yl.pickT rfl rfl) rfl ?_
      refine WL.y (Yl.assign rfl) rfl ?_
      refine WL.nil ?_
      refine WC.ret ?_
      repeat (first | (with_reducible refine peelT ?_) | (with_reducible refine peelB ?_) | (with_reducible refine peelTX ?_) | (with_reducible refine peelBX ?_) | (with_reducible refine peelBN ?_) | (with_reducible refine peelBO rfl ?_))
      exact ret1 (.inr rfl) Try.results4 rfl fun w' h => ⟨(), trivial, rfl, h.sub (by repeat (first | exact TakeL.nil | (apply TakeL.cons; · repeat (first | exact Take1.head | apply Take1.tail))))⟩
    · refine WL.on rfl rfl ?_
      refine WL.y (Yl.move rfl) rfl ?_
      refine WL.on rfl rfl ?_
      have q31 := of_decide_eq_false g31
      refine WL.y (Yl.gtr rfl rfl) rfl ?_
      refine WL.y (Yl.pickF rfl rfl) rfl ?_
      refine WL.nil ?_
      refine WC.condT rfl (by first | rfl | (simp; done) | (simp; omega)) ?_
      refine WC.seq ?_
      refine WC.region ?_
      refine WL.y (Yl.move rfl) rfl ?_
      refine WL.y (Yl.nilEq un33 rfl rfl) rfl ?_
      refine WL.know (t := 36) (b' := true) rfl (by first | rfl | (simp; done) | (simp; omega)) ?_
      refine WL.y (Yl.move rfl) rfl ?_
      refine WL.know (t := 37) (b' := true) rfl (by first | rfl | (simp; done) | (simp; omega)) ?_
      refine WL.on rfl rfl ?_
      refine WL.y (Yl.move rfl) rfl ?_
      refine WL.on rfl rfl ?_
      refine WL.y (Yl.eql rfl rfl) rfl ?_
      refine WL.know (t := 39) (b' := true) rfl (by first | rfl | (simp; done) | (simp; omega)) ?_
      refine WL.y (Yl.pickT rfl rfl) rfl ?_
      refine WL.y (Yl.assign rfl) rfl ?_
      refine WL.nil ?_
      refine WC.ret ?_
      repeat (first | (with_reducible refine peelT ?_) | (with_reducible refine peelB ?_) | (with_reducible refine peelTX ?_) | (with_reducible refine peelBX ?_) | (with_reducible refine peelBN ?_) | (with_reducible refine peelBO rfl ?_))
      exact ret1 (.inr rfl) Try.results4 rfl fun w' h => ⟨(), trivial, rfl, h.sub (by repeat (first | exact TakeL.nil | (apply TakeL.cons; · repeat (first | exact Take1.head | apply Take1.tail))))⟩
set_option maxRecDepth 100000 in
set_option maxHeartbeats 4000000 in
theorem playsYes_any (d : Int) (al : Option Addr) (cl : Nat) (l : List Doo) (hl : DOk l) (hd : telU d = true) (w : World) (hw : OK w (fpL [rdR (.slice al l.length cl) 9 l.length (vcs dooV l)]) [rdR (.slice al l.length cl) 9 l.length (vcs dooV l)] w) :
    Fn Try.prog 4 [.int .u8 d, .slice al l.length cl] [rdR (.slice al l.length cl) 9 l.length (vcs dooV l)] w (fun _ : Unit => True) (fun _ => .bool true) (fun _ => []) := by
  have hdd : 1 ≤ d ∧ d ≤ 3 := by
    unfold telU at hd
    simpa using hd
  refine enterF Try.func4 rfl Try.ntmps4 rfl hw ?_
  refine WC.seq ?_
  refine WC.region ?_
  refine WL.y (Yl.assign rfl) rfl ?_
  refine WL.nil ?_
  refine WC.seq ?_
  refine WC.seq ?_
  refine WC.region ?_
  refine WL.callC (xs := []) (cap := []) rfl rfl en8 (by repeat (first | exact TakeL.nil | (apply TakeL.cons; · repeat (first | exact Take1.head | apply Take1.tail)))) (fun w hw => known_any w hw.left.here) rfl ?_
  rintro ⟨⟩ -
  refine WL.y (Yl.not rfl) rfl ?_
  refine WL.know (t := 20) (b' := false) rfl (by first | rfl | (simp; done) | (simp; omega)) ?_
  refine WL.nil ?_
  refine WC.condF rfl (by first | rfl | (simp; done) | (simp; omega)) ?_
  refine WC.skip ?_
  refine WC.seq ?_
  refine WC.seq ?_
  refine WC.region ?_
  refine WL.y (Yl.move rfl) rfl ?_
  refine WL.y (Yl.len un32 rfl) rfl ?_
  refine WL.y (Yl.gtr rfl rfl) rfl ?_
  refine WL.nil ?_
  refine WC.condD rfl (fun g23 => ?_) (fun g23 => ?_)
  · refine WC.seq ?_
    refine WC.region ?_
    refine WL.y (Yl.assign rfl) rfl ?_
    refine WL.nil ?_
    refine WC.ret ?_
    repeat (first | (with_reducible refine peelT ?_) | (with_reducible refine peelB ?_) | (with_reducible refine peelTX ?_) | (with_reducible refine peelBX ?_) | (with_reducible refine peelBN ?_) | (with_reducible refine peelBO rfl ?_))
    exact ret1 (.inr rfl) Try.results4 rfl fun w' h => ⟨(), trivial, rfl, h.sub (by repeat (first | exact TakeL.nil | (apply TakeL.cons; · repeat (first | exact Take1.head | apply Take1.tail))))⟩
  · refine WC.skip ?_
    refine WC.seq ?_
    refine WC.region ?_
    refine WL.y (Yl.move rfl) rfl ?_
    refine WL.callC (xs := [.tmp 25]) (cap := []) rfl rfl en13 (by repeat (first | exact TakeL.nil | (apply TakeL.cons; · repeat (first | exact Take1.head | apply Take1.tail)))) (fun w hw => newP_any d hd w hw.left.here) rfl ?_
    rintro bp0 -
    dsimp only [polR, List.cons_append, List.nil_append]
    refine WL.y (Yl.move rfl) rfl ?_
    refine WL.y (Yl.extract rfl rfl) rfl ?_
    refine WL.y (Yl.extract rfl rfl) rfl ?_
    refine WL.y (Yl.assign rfl) rfl ?_
    refine WL.y (Yl.assign rfl) rfl ?_
    refine WL.nil ?_
    refine WC.seq ?_
    refine WC.seq ?_
    refine WC.region ?_
    refine WL.y (Yl.move rfl) rfl ?_
    refine WL.y (Yl.lss rfl rfl) rfl ?_
    refine WL.know (t := 30) (b' := false) rfl (by apply decide_eq_false; omega) ?_
    refine WL.y (Yl.move rfl) rfl ?_
    refine WL.know (t := 31) (b' := false) rfl (by first | rfl | (simp; done) | (simp; omega)) ?_
    refine WL.on rfl rfl ?_
    refine WL.y (Yl.move rfl) rfl ?_
    refine WL.on rfl rfl ?_
    refine WL.y (Yl.gtr rfl rfl) rfl ?_
    refine WL.know (t := 33) (b' := false) rfl (by apply decide_eq_false; omega) ?_
    refine WL.y (Yl.pickF rfl rfl) rfl ?_
    refine WL.nil ?_
    refine WC.condF rfl (by first | rfl | (simp; done) | (simp; omega)) ?_
    refine WC.skip ?_
    refine WC.seq ?_
    refine WC.region ?_
    refine WL.y (Yl.move rfl) rfl ?_
    refine WL.y (Yl.build rfl (cs := (Po.new d).rcells (.slice none 0 0)) (fun _ => by kernel_rfl)) rfl ?_
    refine WL.to (To.box (cs := (Po.new d).rcells (.slice none 0 0)) rfl rfl) rfl ?_
    intro b43
    refine WL.y (Yl.assign rfl) rfl ?_
    refine WL.nil ?_
    refine WC.seq ?_
    refine WC.seq ?_
    refine WC.region ?_
    refine WL.y (Yl.move rfl) rfl ?_
    refine WL.y (Yl.len un32 rfl) rfl ?_
    refine WL.y (Yl.move rfl) rfl ?_
    refine WL.nil ?_
    refine WC.block ?_
    refine WC.view (fun w h => (h.addNil 27 5).readOnly (v := .slice none 0 0) .head) ?_
    refine WC.loop (α := Nat × PSt) (fun y => [(5, .pointer (some ⟨y.2.bp, 0, none⟩)), (7, .pointer (some ⟨y.2.bq, 0, none⟩)), (44, .slice al l.length cl), (45, .int .i64 (l.length : Int)), (46, .int .i64 (y.1 : Int))]) (fun y => (fun s : PSt => [rdR (.slice al l.length cl) 9 l.length (vcs dooV l), blkR s.bp 80 (s.p.cells (.slice s.ao s.p.rl.length s.ca)), rdR (.slice s.ao s.p.rl.length s.ca) 5 s.p.rl.length (vcs ruV s.p.rl), blkR s.bq 42 (s.p.rcells (.slice s.ao2 s.p.rl.length s.ca2)), rdR (.slice s.ao2 s.p.rl.length s.ca2) 5 s.p.rl.length (vcs ruV s.p.rl)]) y.2) (fun y => y.1 ≤ l.length ∧ y.2.p.ok) (fun y => l.length - y.1) (0, ⟨bp0, none, 0, b43, none, 0, Po.new d⟩) ⟨Nat.zero_le _, Po.new_ok hd⟩ ⟨(by repeat (first | exact Sub.nil | refine Sub.cons rfl ?_)), _, (by repeat (first | exact TakeL.nil | (apply TakeL.cons; · repeat (first | exact Take1.head | apply Take1.tail))))⟩ ?_
    rintro ⟨k, ⟨bp, ao, ca, bq, ao2, ca2, p⟩⟩ ⟨hk, hp⟩
    dsimp only at hk hp ⊢
    refine WC.seq ?_
    refine WC.region ?_
    refine WL.y (Yl.lss rfl rfl) rfl ?_
    refine WL.nil ?_
    refine WC.seq ?_
    refine WC.condD rfl (fun g47 => ?_) (fun g47 => ?_)
    · refine WC.skip ?_
      refine WC.seq ?_
      refine WC.block ?_
      refine WC.seq ?_
      refine WC.region ?_
      have hkl : k < l.length := by omega
      obtain ⟨x, hx0⟩ : ∃ x, l[k]? = some x := ⟨_, List.getElem?_eq_getElem hkl⟩
      have hxo := hl x (List.mem_of_getElem? hx0)
      have hro := UOk.of hp
      have hln := hp.len
      have hsz := hp.sz
      refine WL.y (Yl.index un32 sz44 rfl rfl (Reads.of (r := rdR (.slice al l.length cl) 9 l.length (vcs dooV l)) RdOf.rd' (by repeat (first | exact Take1.head | apply Take1.tail))) rfl (by omega)) rfl ?_
      refine WL.y (Yl.loadV (j := k) (u := x) vtD hl rfl (Reads.of (r := rdR (.slice al l.length cl) 9 l.length (vcs dooV l)) RdOf.rd' (by repeat (first | exact Take1.head | apply Take1.tail))) rfl hx0) rfl ?_
      refine WL.to (To.alloc (cs := Doo.zero.cells) zr44 rfl) rfl ?_
      intro b9
      refine WL.sto (Sto.agg sz44 rfl rfl (by repeat (first | exact Take1.head | apply Take1.tail)) (Doo.ones _) (Doo.len x) (by rfl) (Doo.all Doo.zero x.cells (Doo.len x))) (fun _ h => nomatch h) ?_
      refine WL.nil ?_
      refine WC.seq ?_
      refine WC.region ?_
      refine WL.y (Yl.assign rfl) rfl ?_
      refine WL.nil ?_
      refine WC.midX (α := PSt) (fun s => [(5, .pointer (some ⟨s.bp, 0, none⟩)), (7, .pointer (some ⟨s.bq, 0, none⟩)), (9, .pointer (some ⟨b9, 0, none⟩)), (10, .bool true), (44, .slice al l.length cl), (45, .int .i64 (l.length : Int)), (46, .int .i64 (k : Int))]) (fun s => [rdR (.slice al l.length cl) 9 l.length (vcs dooV l), blkR b9 44 x.cells, blkR s.bp 80 (s.p.cells (.slice s.ao s.p.rl.length s.ca)), rdR (.slice s.ao s.p.rl.length s.ca) 5 s.p.rl.length (vcs ruV s.p.rl), blkR s.bq 42 (s.p.rcells (.slice s.ao2 s.p.rl.length s.ca2)), rdR (.slice s.ao2 s.p.rl.length s.ca2) 5 s.p.rl.length (vcs ruV s.p.rl)]) (fun s => s.p.ok) ?_ ?_
      · refine WC.seq ?_
        refine WC.region ?_
        refine WL.y (Yl.field fo44_0 rfl) rfl ?_
        refine WL.y (Yl.load on5 rfl (by repeat (first | exact Take1.head | apply Take1.tail)) (by rfl)) rfl ?_
        refine WL.nil ?_
        refine WC.block ?_
        refine WC.seq ?_
        refine WC.region ?_
        refine WL.y (Yl.eql rfl rfl) rfl ?_
        refine WL.y (Yl.assign rfl) rfl ?_
        refine WL.nil ?_
        refine WC.condD rfl (fun g75 => ?_) (fun g75 => ?_)
        · refine WC.drawAny (Hs := [blkR b9 44 x.cells]) mixed (by kernel_rfl) ⟨_, (by repeat (first | exact TakeL.nil | (apply TakeL.cons; · repeat (first | exact Take1.head | apply Take1.tail))))⟩ ?_
          refine WD.take 0 rfl (by kernel_rfl) (by kernel_rfl) (by kernel_rfl) rfl rfl (Yl.move rfl) rfl ?_
          refine WD.take 1 rfl (by kernel_rfl) (by kernel_rfl) (by kernel_rfl) rfl rfl (Yl.field fo44_2 rfl) rfl ?_
          refine WD.take 2 rfl (by kernel_rfl) (by kernel_rfl) (by kernel_rfl) rfl rfl (Yl.load on3 rfl (by repeat (first | exact Take1.head | apply Take1.tail)) (by rfl)) rfl ?_
          refine WD.take 3 rfl (by kernel_rfl) (by kernel_rfl) (by kernel_rfl) rfl rfl (Yl.field fo44_1 rfl) rfl ?_
          refine WD.take 4 rfl (by kernel_rfl) (by kernel_rfl) (by kernel_rfl) rfl rfl (Yl.loadN ag24 rfl (by repeat (first | exact Take1.head | apply Take1.tail)) (by rfl) (show _ = x.r.cells from rfl)) rfl ?_
          refine WD.take 6 rfl (by kernel_rfl) (by kernel_rfl) (by kernel_rfl) rfl rfl (Yl.move rfl) rfl ?_
          refine WD.take 7 rfl (by kernel_rfl) (by kernel_rfl) (by kernel_rfl) rfl rfl (Yl.field fo44_2 rfl) rfl ?_
          refine WD.take 8 rfl (by kernel_rfl) (by kernel_rfl) (by kernel_rfl) rfl rfl (Yl.load on3 rfl (by repeat (first | exact Take1.head | apply Take1.tail)) (by rfl)) rfl ?_
          refine WD.take 9 rfl (by kernel_rfl) (by kernel_rfl) (by kernel_rfl) rfl rfl (Yl.field fo44_1 rfl) rfl ?_
          refine WD.take 10 rfl (by kernel_rfl) (by kernel_rfl) (by kernel_rfl) rfl rfl (Yl.loadN ag24 rfl (by repeat (first | exact Take1.head | apply Take1.tail)) (by rfl) (show _ = x.r.cells from rfl)) rfl ?_
          refine WD.one 5 (by kernel_rfl) ?_
          refine WO.callC (xs := [.tmp 77, .tmp 79, .tmp 81]) (cap := []) rfl .no rfl rfl en14 (by repeat (first | exact TakeL.nil | (apply TakeL.cons; · repeat (first | exact Take1.head | apply Take1.tail)))) (fun w hw => insP_any bp ao ca p x.z x.r hp hxo.r w hw.left.here) rfl (fun _ => ⟨_, (by repeat (first | exact TakeL.nil | (apply TakeL.cons; · repeat (first | exact Take1.head | apply Take1.tail))))⟩) ?_
          rintro ⟨ao1, ca1⟩ -
          dsimp only [polR, List.cons_append, List.nil_append]
          refine WD.one 11 (by kernel_rfl) ?_
          refine WO.callC (xs := [.tmp 83, .tmp 85, .tmp 87]) (cap := []) rfl .no rfl rfl en15 (by repeat (first | exact TakeL.nil | (apply TakeL.cons; · repeat (first | exact Take1.head | apply Take1.tail)))) (fun w hw => rins_any bq ao2 ca2 p x.z x.r hro hln hxo.r w hw.left.here) rfl (fun _ => ⟨_, (by repeat (first | exact TakeL.nil | (apply TakeL.cons; · repeat (first | exact Take1.head | apply Take1.tail))))⟩) ?_
          rintro ⟨ao3, ca3⟩ -
          dsimp only [polS, List.cons_append, List.nil_append]
          refine WD.take 12 rfl (by kernel_rfl) (by kernel_rfl) (by kernel_rfl) rfl rfl (Yl.eql rfl rfl) rfl ?_
          refine WD.know (t := 89) (b' := true) rfl (by first | rfl | (simp; done) | (simp; omega)) ?_
          refine WD.take 13 rfl (by kernel_rfl) (by kernel_rfl) (by kernel_rfl) rfl rfl (Yl.assign rfl) rfl ?_
          refine WD.done (by kernel_rfl) ?_
          exact ⟨rfl, ⟨bp, ao1, ca1, bq, ao3, ca3, insP p x.z x.r⟩, hp.ins hxo.r, (by repeat (first | exact Sub.nil | refine Sub.cons rfl ?_)), _, (by repeat (first | exact TakeL.nil | (apply TakeL.cons; · repeat (first | exact Take1.head | apply Take1.tail))))⟩
        · refine WC.seq ?_
          refine WC.region ?_
          refine WL.y (Yl.eql rfl rfl) rfl ?_
          refine WL.y (Yl.assign rfl) rfl ?_
          refine WL.nil ?_
          refine WC.condD rfl (fun g90 => ?_) (fun g90 => ?_)
          · refine WC.drawAny (Hs := [blkR b9 44 x.cells]) mixed (by kernel_rfl) ⟨_, (by repeat (first | exact TakeL.nil | (apply TakeL.cons; · repeat (first | exact Take1.head | apply Take1.tail))))⟩ ?_
            refine WD.take 0 rfl (by kernel_rfl) (by kernel_rfl) (by kernel_rfl) rfl rfl (Yl.move rfl) rfl ?_
            refine WD.take 1 rfl (by kernel_rfl) (by kernel_rfl) (by kernel_rfl) rfl rfl (Yl.field fo44_2 rfl) rfl ?_
            refine WD.take 2 rfl (by kernel_rfl) (by kernel_rfl) (by kernel_rfl) rfl rfl (Yl.load on3 rfl (by repeat (first | exact Take1.head | apply Take1.tail)) (by rfl)) rfl ?_
            refine WD.take 4 rfl (by kernel_rfl) (by kernel_rfl) (by kernel_rfl) rfl rfl (Yl.move rfl) rfl ?_
            refine WD.take 5 rfl (by kernel_rfl) (by kernel_rfl) (by kernel_rfl) rfl rfl (Yl.field fo44_2 rfl) rfl ?_
            refine WD.take 6 rfl (by kernel_rfl) (by kernel_rfl) (by kernel_rfl) rfl rfl (Yl.load on3 rfl (by repeat (first | exact Take1.head | apply Take1.tail)) (by rfl)) rfl ?_
            refine WD.one 3 (by kernel_rfl) ?_
            refine WO.callC (xs := [.tmp 92, .tmp 94]) (cap := []) rfl .no rfl rfl en16 (by repeat (first | exact TakeL.nil | (apply TakeL.cons; · repeat (first | exact Take1.head | apply Take1.tail)))) (fun w hw => remP_any bp ao ca p x.z hp w hw.left.here) rfl (fun _ => ⟨_, (by repeat (first | exact TakeL.nil | (apply TakeL.cons; · repeat (first | exact Take1.head | apply Take1.tail))))⟩) ?_
            rintro ⟨ao1, ca1⟩ -
            dsimp only [polR, List.cons_append, List.nil_append]
            refine WD.one 7 (by kernel_rfl) ?_
            refine WO.callC (xs := [.tmp 96, .tmp 98]) (cap := []) rfl .no rfl rfl en17 (by repeat (first | exact TakeL.nil | (apply TakeL.cons; · repeat (first | exact Take1.head | apply Take1.tail)))) (fun w hw => rrem_any bq ao2 ca2 p x.z hro hln w hw.left.here) rfl (fun _ => ⟨_, (by repeat (first | exact TakeL.nil | (apply TakeL.cons; · repeat (first | exact Take1.head | apply Take1.tail))))⟩) ?_
            rintro ⟨ao3, ca3⟩ -
            dsimp only [polS, List.cons_append, List.nil_append]
            refine WD.take 8 rfl (by kernel_rfl) (by kernel_rfl) (by kernel_rfl) rfl rfl (Yl.eql rfl rfl) rfl ?_
            refine WD.know (t := 100) (b' := true) rfl (by first | rfl | (simp; done) | (simp; omega)) ?_
            refine WD.take 9 rfl (by kernel_rfl) (by kernel_rfl) (by kernel_rfl) rfl rfl (Yl.assign rfl) rfl ?_
            refine WD.done (by kernel_rfl) ?_
            exact ⟨rfl, ⟨bp, ao1, ca1, bq, ao3, ca3, remP p x.z⟩, hp.rem x.z, (by repeat (first | exact Sub.nil | refine Sub.cons rfl ?_)), _, (by repeat (first | exact TakeL.nil | (apply TakeL.cons; · repeat (first | exact Take1.head | apply Take1.tail))))⟩
          · refine WC.seq ?_
            refine WC.region ?_
            refine WL.y (Yl.eql rfl rfl) rfl ?_
            refine WL.y (Yl.assign rfl) rfl ?_
            refine WL.nil ?_
            refine WC.condD rfl (fun g101 => ?_) (fun g101 => ?_)
            · refine WC.seq ?_
              refine WC.region ?_
              refine WL.y (Yl.move rfl) rfl ?_
              refine WL.y (Yl.field fo44_3 rfl) rfl ?_
              refine WL.y (Yl.load on5 rfl (by repeat (first | exact Take1.head | apply Take1.tail)) (by rfl)) rfl ?_
              refine WL.y (Yl.field fo44_4 rfl) rfl ?_
              refine WL.y (Yl.load on25 rfl (by repeat (first | exact Take1.head | apply Take1.tail)) (by rfl)) rfl ?_
              refine WL.callC (xs := [.tmp 103, .tmp 105, .tmp 107]) (cap := []) rfl rfl en18 (by repeat (first | exact TakeL.nil | (apply TakeL.cons; · repeat (first | exact Take1.head | apply Take1.tail)))) (fun w hw => noteP_any bp ao ca p (x.a : Int) x.n (by omega) hp w hw.left.here) rfl ?_
              rintro ⟨⟩ -
              dsimp only [polR, List.cons_append, List.nil_append]
              refine WL.nil ?_
              refine WC.seq ?_
              refine WC.region ?_
              refine WL.y (Yl.field fo44_3 rfl) rfl ?_
              refine WL.y (Yl.load on5 rfl (by repeat (first | exact Take1.head | apply Take1.tail)) (by rfl)) rfl ?_
              refine WL.y (Yl.lss rfl rfl) rfl ?_
              refine WL.nil ?_
              refine WC.condD rfl (fun g111 => ?_) (fun g111 => ?_)
              · have hj8 : x.a < 8 := by have := g111; omega
                have hc18 := Po.rlen hsz (.slice ao2 p.rl.length ca2)
                have e : noteU p (x.a : Int) x.n = { p with no := p.no.set x.a true, la := p.la.set x.a x.n } := by unfold noteU; rw [if_pos (by omega), Int.toNat_natCast]
                have hpn := hp.note (a := (x.a : Int)) hxo.n
                rw [e] at hpn ⊢
                refine WC.drawAny (Hs := [blkR b9 44 x.cells]) mixed (by kernel_rfl) ⟨_, (by repeat (first | exact TakeL.nil | (apply TakeL.cons; · repeat (first | exact Take1.head | apply Take1.tail))))⟩ ?_
                refine WD.take 0 rfl (by kernel_rfl) (by kernel_rfl) (by kernel_rfl) rfl rfl (Yl.move rfl) rfl ?_
                refine WD.take 1 rfl (by kernel_rfl) (by kernel_rfl) (by kernel_rfl) rfl rfl (Yl.field fo44_3 rfl) rfl ?_
                refine WD.take 2 rfl (by kernel_rfl) (by kernel_rfl) (by kernel_rfl) rfl rfl (Yl.load on5 rfl (by repeat (first | exact Take1.head | apply Take1.tail)) (by rfl)) rfl ?_
                refine WD.take 3 rfl (by kernel_rfl) (by kernel_rfl) (by kernel_rfl) rfl rfl (Yl.move rfl) rfl ?_
                refine WD.take 4 rfl (by kernel_rfl) (by kernel_rfl) (by kernel_rfl) rfl rfl (Yl.field fo44_3 rfl) rfl ?_
                refine WD.take 5 rfl (by kernel_rfl) (by kernel_rfl) (by kernel_rfl) rfl rfl (Yl.load on5 rfl (by repeat (first | exact Take1.head | apply Take1.tail)) (by rfl)) rfl ?_
                refine WD.take 6 rfl (by kernel_rfl) (by kernel_rfl) (by kernel_rfl) rfl rfl (Yl.field fo44_4 rfl) rfl ?_
                refine WD.take 7 rfl (by kernel_rfl) (by kernel_rfl) (by kernel_rfl) rfl rfl (Yl.load on25 rfl (by repeat (first | exact Take1.head | apply Take1.tail)) (by rfl)) rfl ?_
                refine WD.take 8 rfl (by kernel_rfl) (by kernel_rfl) (by kernel_rfl) rfl rfl (Yl.nilCheck rfl) rfl ?_
                refine WD.take 9 rfl (by kernel_rfl) (by kernel_rfl) (by kernel_rfl) rfl rfl (Yl.field fo42_2 rfl) rfl ?_
                refine WD.take 10 rfl (by kernel_rfl) (by kernel_rfl) (by kernel_rfl) rfl rfl (Yl.indexA un39 sz4 rfl rfl rfl (by omega)) rfl ?_
                refine WD.take 12 rfl (by kernel_rfl) (by kernel_rfl) (by kernel_rfl) rfl rfl (Yl.nilCheck rfl) rfl ?_
                refine WD.take 13 rfl (by kernel_rfl) (by kernel_rfl) (by kernel_rfl) rfl rfl (Yl.field fo42_3 rfl) rfl ?_
                refine WD.one 11 (by kernel_rfl) ?_
                refine WO.sto rfl rfl .no (Sto.one sz4 rfl rfl (by repeat (first | exact Take1.head | apply Take1.tail)) rfl (leN (show 0 + 2 + x.a * 1 + 1 ≤ _ by first | (rw [hc18]; omega) | (rw [List.length_set, hc18]; omega))) (by rfl)) ⟨_, (by repeat (first | exact TakeL.nil | (apply TakeL.cons; · repeat (first | exact Take1.head | apply Take1.tail))))⟩ ?_
                refine WD.take 14 rfl (by kernel_rfl) (by kernel_rfl) (by kernel_rfl) rfl rfl (Yl.indexA un40 sz25 rfl rfl rfl (by omega)) rfl ?_
                refine WD.one 15 (by kernel_rfl) ?_
                refine WO.sto rfl rfl .no (Sto.one sz25 rfl rfl (by repeat (first | exact Take1.head | apply Take1.tail)) rfl (leN (show 0 + 10 + x.a * 1 + 1 ≤ _ by first | (rw [hc18]; omega) | (rw [List.length_set, hc18]; omega))) (by rfl)) ⟨_, (by repeat (first | exact TakeL.nil | (apply TakeL.cons; · repeat (first | exact Take1.head | apply Take1.tail))))⟩ ?_
                refine WD.done (by kernel_rfl) ?_
                first | rw [rnoteC1 hsz _ hj8 x.n] | rw [rnoteC2 hsz _ hj8 x.n]
                exact ⟨rfl, ⟨bp, ao, ca, bq, ao2, ca2, { p with no := p.no.set x.a true, la := p.la.set x.a x.n }⟩, hpn, (by repeat (first | exact Sub.nil | refine Sub.cons rfl ?_)), _, (by repeat (first | exact TakeL.nil | (apply TakeL.cons; · repeat (first | exact Take1.head | apply Take1.tail))))⟩
              · refine WC.skip ?_
                have e : noteU p (x.a : Int) x.n = p := by unfold noteU; rw [if_neg (by have := g111; omega)]
                rw [e]
                exact ⟨rfl, ⟨bp, ao, ca, bq, ao2, ca2, p⟩, hp, (by repeat (first | exact Sub.nil | refine Sub.cons rfl ?_)), _, (by repeat (first | exact TakeL.nil | (apply TakeL.cons; · repeat (first | exact Take1.head | apply Take1.tail))))⟩
            · refine WC.seq ?_
              refine WC.region ?_
              refine WL.y (Yl.eql rfl rfl) rfl ?_
              refine WL.y (Yl.assign rfl) rfl ?_
              refine WL.nil ?_
              refine WC.condD rfl (fun g126 => ?_) (fun g126 => ?_)
              · refine WC.seq ?_
                refine WC.region ?_
                refine WL.y (Yl.move rfl) rfl ?_
                refine WL.callC (xs := [.tmp 128]) (cap := []) rfl rfl en19 (by repeat (first | exact TakeL.nil | (apply TakeL.cons; · repeat (first | exact Take1.head | apply Take1.tail)))) (fun w hw => ridle_any bq ao2 ca2 p hro hln w hw.left.here) rfl ?_
                rintro ⟨a129, c129⟩ -
                dsimp only [polS, List.cons_append, List.nil_append]
                refine WL.y (Yl.assign rfl) rfl ?_
                refine WL.nil ?_
                refine WC.seq ?_
                refine WC.region ?_
                refine WL.y (Yl.move rfl) rfl ?_
                refine WL.callC (xs := [.tmp 130]) (cap := []) rfl rfl en21 (by repeat (first | exact TakeL.nil | (apply TakeL.cons; · repeat (first | exact Take1.head | apply Take1.tail)))) (fun w hw => lidleK_any bp ao ca p hp w hw.left.here) rfl ?_
                rintro ⟨a131, c131⟩ -
                dsimp only [polR, List.cons_append, List.nil_append]
                have hil := idle_len p.rl
                obtain ⟨G, hG⟩ : ∃ G, natI (idleU p.rl) = G := ⟨_, rfl⟩
                have hGl : (idleU p.rl).length = G.length := by rw [← hG, natI_len]
                rw [hG, hGl]
                rw [hGl] at hil
                refine WL.y (Yl.move rfl) rfl ?_
                refine WL.callC (xs := [.tmp 131, .tmp 132]) (cap := []) rfl rfl en20 (by repeat (first | exact TakeL.nil | (apply TakeL.cons; · repeat (first | exact Take1.head | apply Take1.tail)))) (fun w hw => equalI_any (.slice a131 G.length c131) (.slice a129 G.length c129) G G (by omega) w (hw.src (A := []) (r := ownR (.slice a131 G.length c131) 3 1 G.length (ints .i64 G)) RdOf.own (by repeat (first | exact Take1.head | apply Take1.tail))) (hw.src (A := []) (r := ownR (.slice a129 G.length c129) 3 1 G.length (ints .i64 G)) RdOf.own (by repeat (first | exact Take1.head | apply Take1.tail))) hw.left.here) rfl ?_
                rintro ⟨⟩ -
                refine WL.know (t := 133) (b' := true) rfl (by first | rfl | (simp; done) | (simp; omega)) ?_
                refine WL.y (Yl.move rfl) rfl ?_
                refine WL.know (t := 134) (b' := true) rfl (by first | rfl | (simp; done) | (simp; omega)) ?_
                refine WL.on rfl rfl ?_
                refine WL.y (Yl.move rfl) rfl ?_
                refine WL.on rfl rfl ?_
                refine WL.callC (xs := [.tmp 135]) (cap := []) rfl rfl en22 (by repeat (first | exact TakeL.nil | (apply TakeL.cons; · repeat (first | exact Take1.head | apply Take1.tail)))) (fun w hw => tidyP_any bp ao ca p hp w hw.left.here) rfl ?_
                rintro ⟨ao1, ca1⟩ -
                rw [hGl]
                dsimp only [polR, List.cons_append, List.nil_append]
                refine WL.on rfl rfl ?_
                refine WL.y (Yl.move rfl) rfl ?_
                refine WL.on rfl rfl ?_
                refine WL.y (Yl.len un49 rfl) rfl ?_
                refine WL.on rfl rfl ?_
                refine WL.y (Yl.eql rfl rfl) rfl ?_
                refine WL.know (t := 139) (b' := true) rfl (by first | rfl | (simp; done) | (simp; omega)) ?_
                refine WL.y (Yl.pickT rfl rfl) rfl ?_
                refine WL.y (Yl.assign rfl) rfl ?_
                refine WL.nil ?_
                refine WC.seq ?_
                refine WC.region ?_
                refine WL.y (Yl.move rfl) rfl ?_
                refine WL.y (Yl.len un49 rfl) rfl ?_
                refine WL.y (Yl.sub rfl rfl (IntWalk.i64_in _ (by omega))) rfl ?_
                refine WL.say (t := 143) (v' := .int .i64 ((G.length : Int) - 1)) rfl (by rfl) ?_
                refine WL.y (Yl.assign rfl) rfl ?_
                refine WL.nil ?_
                refine WC.block ?_
                refine WC.loop (α := Nat × (Option Addr × Nat)) (fun y => [(5, .pointer (some ⟨bp, 0, none⟩)), (7, .pointer (some ⟨bq, 0, none⟩)), (9, .pointer (some ⟨b9, 0, none⟩)), (10, .bool true), (11, .slice a129 G.length c129), (12, .int .i64 ((y.1 : Int) - 1)), (44, .slice al l.length cl), (45, .int .i64 (l.length : Int)), (46, .int .i64 (k : Int))]) (fun y => [rdR (.slice al l.length cl) 9 l.length (vcs dooV l), blkR b9 44 x.cells, blkR bp 80 ((tidyU p).cells (.slice ao1 (tidyU p).rl.length ca1)), rdR (.slice ao1 (tidyU p).rl.length ca1) 5 (tidyU p).rl.length (vcs ruV (tidyU p).rl), ownR (.slice a129 G.length c129) 3 1 G.length (ints .i64 G), blkR bq 42 (({ p with rl := delL p.rl ((idleU p.rl).drop y.1) } : Po).rcells (.slice y.2.1 (delL p.rl ((idleU p.rl).drop y.1)).length y.2.2)), rdR (.slice y.2.1 (delL p.rl ((idleU p.rl).drop y.1)).length y.2.2) 5 (delL p.rl ((idleU p.rl).drop y.1)).length (vcs ruV (delL p.rl ((idleU p.rl).drop y.1)))]) (fun y => y.1 ≤ G.length) (fun y => y.1) (G.length, (ao2, ca2)) (Nat.le_refl _) ⟨(by repeat (first | exact Sub.nil | refine Sub.cons rfl ?_)), _, (by dsimp only; rw [← hGl, delL_none]; exact (by repeat (first | exact TakeL.nil | (apply TakeL.cons; · repeat (first | exact Take1.head | apply Take1.tail)))))⟩ ?_
                rintro ⟨j, ao4, ca4⟩ hj
                dsimp only at hj ⊢
                refine WC.seq ?_
                refine WC.seq ?_
                refine WC.region ?_
                refine WL.y (Yl.move rfl) rfl ?_
                refine WL.y (Yl.geq rfl rfl) rfl ?_
                refine WL.nil ?_
                refine WC.condD rfl (fun g145 => ?_) (fun g145 => ?_)
                · refine WC.skip ?_
                  refine WC.seq ?_
                  refine WC.block ?_
                  obtain ⟨i, rfl⟩ : ∃ i, j = i + 1 := ⟨j - 1, by omega⟩
                  have hiG : i < (idleU p.rl).length := by omega
                  obtain ⟨q, hq⟩ : ∃ q, (idleU p.rl)[i]? = some q := ⟨_, List.getElem?_eq_getElem hiG⟩
                  obtain ⟨hs1, hs2⟩ := delL_step p.rl hq
                  have hqq := natI_get hq
                  rw [hG] at hqq
                  obtain ⟨L, hL⟩ : ∃ L, delL p.rl ((idleU p.rl).drop (i + 1)) = L := ⟨_, rfl⟩
                  rw [hL] at hs1 hs2 ⊢
                  have hLo : UOk L := by rw [← hL]; exact fun r hr => hro r (delL_mem hr)
                  have hLl : L.length ≤ 64 := by have := delL_le ((idleU p.rl).drop (i + 1)) p.rl; rw [hL] at this; omega
                  refine WC.region ?_
                  refine WL.y (Yl.move rfl) rfl ?_
                  refine WL.y (Yl.move rfl) rfl ?_
                  refine WL.y (Yl.move rfl) rfl ?_
                  refine WL.say (t := 150) (v' := .int .i64 (i : Int)) rfl (by (refine congrArg (Value.int .i64) ?_; omega)) ?_
                  refine WL.y (Yl.index un49 sz3 rfl rfl (Reads.of (r := ownR (.slice a129 G.length c129) 3 1 G.length (ints .i64 G)) RdOf.own (by repeat (first | exact Take1.head | apply Take1.tail))) rfl (by omega)) rfl ?_
                  refine WL.y (Yl.loadE on3 rfl (Reads.of (r := ownR (.slice a129 G.length c129) 3 1 G.length (ints .i64 G)) RdOf.own (by repeat (first | exact Take1.head | apply Take1.tail))) hqq) rfl ?_
                  refine WL.callC (xs := [.tmp 148, .tmp 152]) (cap := []) rfl rfl en17 (by repeat (first | exact TakeL.nil | (apply TakeL.cons; · repeat (first | exact Take1.head | apply Take1.tail)))) (fun w hw => rrem_any bq ao4 ca4 { p with rl := L } (q : Int) hLo hLl w hw.left.here) rfl ?_
                  rintro ⟨ao5, ca5⟩ -
                  rw [remP_at hs2, ← hs1]
                  dsimp only [polS, List.cons_append, List.nil_append]
                  refine WL.nil ?_
                  refine WC.region ?_
                  refine WL.y (Yl.move rfl) rfl ?_
                  refine WL.y (Yl.sub rfl rfl (IntWalk.i64_in _ (by omega))) rfl ?_
                  refine WL.say (t := 147) (v' := .int .i64 ((i : Int) - 1)) rfl (by (refine congrArg (Value.int .i64) ?_; omega)) ?_
                  refine WL.y (Yl.assign rfl) rfl ?_
                  refine WL.nil ?_
                  exact ⟨rfl, (i, ao5, ca5), by dsimp only; omega, by dsimp only; omega, (by repeat (first | exact Sub.nil | refine Sub.cons rfl ?_)), _, (by repeat (first | exact TakeL.nil | (apply TakeL.cons; · repeat (first | exact Take1.head | apply Take1.tail))))⟩
                · refine WC.exit ?_
                  have ej : j = 0 := by omega
                  subst ej
                  rw [delL_all]
                  exact ⟨rfl, ⟨bp, ao1, ca1, bq, ao4, ca4, tidyU p⟩, hp.tidy, (by repeat (first | exact Sub.nil | refine Sub.cons rfl ?_)), _, (by repeat (first | exact TakeL.nil | (apply TakeL.cons; · repeat (first | exact Take1.head | apply Take1.tail))))⟩
              · refine WC.seq ?_
                refine WC.region ?_
                refine WL.y (Yl.move rfl) rfl ?_
                refine WL.callC (xs := [.tmp 53]) (cap := []) rfl rfl en24 (by repeat (first | exact TakeL.nil | (apply TakeL.cons; · repeat (first | exact Take1.head | apply Take1.tail)))) (fun w hw => bytesK_any bp ao ca p hp w hw.left.here) rfl ?_
                rintro ⟨a54, c54⟩ -
                dsimp only [polR, List.cons_append, List.nil_append]
                obtain ⟨hok, hldp⟩ := polB_load hp
                obtain ⟨hp2, hld, _, _⟩ := load_is (polB_bytes hp) hok
                rw [hldp] at hp2
                have hpl := polB_len p
                refine WL.callC (xs := [.tmp 54]) (cap := []) rfl rfl en23 (by repeat (first | exact TakeL.nil | (apply TakeL.cons; · repeat (first | exact Take1.head | apply Take1.tail)))) (fun w hw => loadYes_any (.slice a54 (polB p).length c54) (polB p) (polB_bytes hp) (by omega) hld w (hw.src (A := []) (r := ownR (.slice a54 (polB p).length c54) 5 1 (polB p).length (ints .u8 (polB p))) RdOf.own (by repeat (first | exact Take1.head | apply Take1.tail))) hw.left.here) rfl ?_
                rintro ⟨bp2, aoP, caP⟩ -
                rw [hldp]
                dsimp only [polR, List.cons_append, List.nil_append]
                refine WL.y (Yl.move rfl) rfl ?_
                refine WL.y (Yl.extract rfl rfl) rfl ?_
                refine WL.y (Yl.extract rfl rfl) rfl ?_
                refine WL.y (Yl.assign rfl) rfl ?_
                refine WL.y (Yl.assign rfl) rfl ?_
                refine WL.nil ?_
                refine WC.seq ?_
                refine WC.seq ?_
                refine WC.region ?_
                refine WL.y (Yl.move rfl) rfl ?_
                refine WL.y (Yl.neq rfl rfl) rfl ?_
                refine WL.know (t := 59) (b' := false) rfl (by first | rfl | (simp; done) | (simp; omega)) ?_
                refine WL.y (Yl.move rfl) rfl ?_
                refine WL.know (t := 60) (b' := false) rfl (by first | rfl | (simp; done) | (simp; omega)) ?_
                refine WL.on rfl rfl ?_
                refine WL.y (Yl.move rfl) rfl ?_
                refine WL.on rfl rfl ?_
                refine WL.y (Yl.nilEq un33 rfl rfl) rfl ?_
                refine WL.know (t := 62) (b' := false) rfl (by first | rfl | (simp; done) | (simp; omega)) ?_
                refine WL.y (Yl.pickF rfl rfl) rfl ?_
                refine WL.nil ?_
                refine WC.condF rfl (by first | rfl | (simp; done) | (simp; omega)) ?_
                refine WC.skip ?_
                refine WC.seq ?_
                refine WC.region ?_
                refine WL.y (Yl.move rfl) rfl ?_
                refine WL.y (Yl.assign rfl) rfl ?_
                refine WL.nil ?_
                refine WC.drawAny (Hs := [blkR bq 42 (p.rcells (.slice ao2 p.rl.length ca2))]) mixed (by kernel_rfl) ⟨_, (by repeat (first | exact TakeL.nil | (apply TakeL.cons; · repeat (first | exact Take1.head | apply Take1.tail))))⟩ ?_
                refine WD.take 0 rfl (by kernel_rfl) (by kernel_rfl) (by kernel_rfl) rfl rfl (Yl.move rfl) rfl ?_
                refine WD.take 1 rfl (by kernel_rfl) (by kernel_rfl) (by kernel_rfl) rfl rfl (Yl.nilCheck rfl) rfl ?_
                refine WD.take 2 rfl (by kernel_rfl) (by kernel_rfl) (by kernel_rfl) rfl rfl (Yl.field fo42_0 rfl) rfl ?_
                refine WD.take 3 rfl (by kernel_rfl) (by kernel_rfl) (by kernel_rfl) rfl rfl (Yl.load on5 rfl (by repeat (first | exact Take1.head | apply Take1.tail)) (by rfl)) rfl ?_
                refine WD.take 4 rfl (by kernel_rfl) (by kernel_rfl) (by kernel_rfl) rfl rfl (Yl.move rfl) rfl ?_
                refine WD.take 5 rfl (by kernel_rfl) (by kernel_rfl) (by kernel_rfl) rfl rfl (Yl.nilCheck rfl) rfl ?_
                refine WD.take 6 rfl (by kernel_rfl) (by kernel_rfl) (by kernel_rfl) rfl rfl (Yl.field fo42_1 rfl) rfl ?_
                refine WD.take 7 rfl (by kernel_rfl) (by kernel_rfl) (by kernel_rfl) rfl rfl (Yl.load on38 rfl (by repeat (first | exact Take1.head | apply Take1.tail)) (by rfl)) rfl ?_
                refine WD.take 8 rfl (by kernel_rfl) (by kernel_rfl) (by kernel_rfl) rfl rfl (Yl.build rfl (cs := ({ Po.new p.df with rl := p.rl } : Po).rcells (.slice ao2 p.rl.length ca2)) (fun _ => by kernel_rfl)) rfl ?_
                refine WD.one 9 (by kernel_rfl) ?_
                refine WO.to rfl rfl .no (To.box (cs := ({ Po.new p.df with rl := p.rl } : Po).rcells (.slice ao2 p.rl.length ca2)) rfl rfl) rfl (fun _ => ⟨_, (by repeat (first | exact TakeL.nil | (apply TakeL.cons; · repeat (first | exact Take1.head | apply Take1.tail))))⟩) ?_
                intro b74
                refine WD.take 10 rfl (by kernel_rfl) (by kernel_rfl) (by kernel_rfl) rfl rfl (Yl.assign rfl) rfl ?_
                refine WD.done (by kernel_rfl) ?_
                exact ⟨rfl, ⟨bp2, aoP, caP, b74, ao2, ca2, { Po.new p.df with rl := p.rl }⟩, hp2, (by repeat (first | exact Sub.nil | refine Sub.cons rfl ?_)), _, (by repeat (first | exact TakeL.nil | (apply TakeL.cons; · repeat (first | exact Take1.head | apply Take1.tail))))⟩
      · clear hp hro hln hsz
        rintro ⟨bp, ao, ca, bq, ao2, ca2, p⟩ hp
        dsimp only at hp ⊢
        refine WC.seq ?_
        refine WC.region ?_
        refine WL.y (Yl.move rfl) rfl ?_
        refine WL.y (Yl.field fo44_3 rfl) rfl ?_
        refine WL.y (Yl.load on5 rfl (by repeat (first | exact Take1.head | apply Take1.tail)) (by rfl)) rfl ?_
        refine WL.y (Yl.field fo44_4 rfl) rfl ?_
        refine WL.y (Yl.load on25 rfl (by repeat (first | exact Take1.head | apply Take1.tail)) (by rfl)) rfl ?_
        refine WL.callC (xs := [.tmp 155, .tmp 157, .tmp 159]) (cap := []) rfl rfl en25 (by repeat (first | exact TakeL.nil | (apply TakeL.cons; · repeat (first | exact Take1.head | apply Take1.tail)))) (fun w hw => askK_any bp ao ca p (x.a : Int) x.n (by omega) hxo.n hp w hw.left.here) rfl ?_
        rintro ⟨⟩ -
        dsimp only [polR, List.cons_append, List.nil_append]
        refine WL.y (Yl.move rfl) rfl ?_
        refine WL.y (Yl.extract rfl rfl) rfl ?_
        refine WL.y (Yl.extract rfl rfl) rfl ?_
        refine WL.y (Yl.assign rfl) rfl ?_
        refine WL.y (Yl.assign rfl) rfl ?_
        refine WL.nil ?_
        refine WC.seq ?_
        refine WC.region ?_
        refine WL.y (Yl.move rfl) rfl ?_
        refine WL.y (Yl.field fo44_3 rfl) rfl ?_
        refine WL.y (Yl.load on5 rfl (by repeat (first | exact Take1.head | apply Take1.tail)) (by rfl)) rfl ?_
        refine WL.y (Yl.field fo44_4 rfl) rfl ?_
        refine WL.y (Yl.load on25 rfl (by repeat (first | exact Take1.head | apply Take1.tail)) (by rfl)) rfl ?_
        refine WL.callC (xs := [.tmp 164, .tmp 166, .tmp 168]) (cap := []) rfl rfl en26 (by repeat (first | exact TakeL.nil | (apply TakeL.cons; · repeat (first | exact Take1.head | apply Take1.tail)))) (fun w hw => rask_any bq ao2 ca2 p (x.a : Int) x.n (by omega) hxo.n hp w hw.left.here) rfl ?_
        rintro ⟨⟩ -
        dsimp only [polS, List.cons_append, List.nil_append]
        refine WL.y (Yl.move rfl) rfl ?_
        refine WL.y (Yl.extract rfl rfl) rfl ?_
        refine WL.y (Yl.extract rfl rfl) rfl ?_
        refine WL.y (Yl.assign rfl) rfl ?_
        refine WL.y (Yl.assign rfl) rfl ?_
        refine WL.nil ?_
        refine WC.seq ?_
        refine WC.region ?_
        refine WL.y (Yl.move rfl) rfl ?_
        refine WL.y (Yl.not rfl) rfl ?_
        refine WL.know (t := 173) (b' := false) rfl (by first | rfl | (simp; done) | (simp; omega)) ?_
        refine WL.y (Yl.move rfl) rfl ?_
        refine WL.know (t := 174) (b' := false) rfl (by first | rfl | (simp; done) | (simp; omega)) ?_
        refine WL.on rfl rfl ?_
        refine WL.y (Yl.move rfl) rfl ?_
        refine WL.on rfl rfl ?_
        refine WL.y (Yl.move rfl) rfl ?_
        refine WL.on rfl rfl ?_
        refine WL.y (Yl.neq rfl rfl) rfl ?_
        refine WL.know (t := 177) (b' := false) rfl (by first | rfl | (simp; done) | (simp; omega)) ?_
        refine WL.y (Yl.pickF rfl rfl) rfl ?_
        refine WL.y (Yl.move rfl) rfl ?_
        refine WL.know (t := 179) (b' := false) rfl (by first | rfl | (simp; done) | (simp; omega)) ?_
        refine WL.on rfl rfl ?_
        refine WL.y (Yl.move rfl) rfl ?_
        refine WL.on rfl rfl ?_
        refine WL.y (Yl.move rfl) rfl ?_
        refine WL.on rfl rfl ?_
        refine WL.y (Yl.neq rfl rfl) rfl ?_
        refine WL.know (t := 182) (b' := false) rfl (by first | rfl | (simp; done) | (simp; omega)) ?_
        refine WL.y (Yl.pickF rfl rfl) rfl ?_
        refine WL.y (Yl.move rfl) rfl ?_
        refine WL.know (t := 184) (b' := false) rfl (by first | rfl | (simp; done) | (simp; omega)) ?_
        refine WL.on rfl rfl ?_
        refine WL.y (Yl.move rfl) rfl ?_
        refine WL.on rfl rfl ?_
        refine WL.y (Yl.move rfl) rfl ?_
        refine WL.on rfl rfl ?_
        refine WL.callC (xs := [.tmp 185, .tmp 186]) (cap := []) rfl rfl en27 (by repeat (first | exact TakeL.nil | (apply TakeL.cons; · repeat (first | exact Take1.head | apply Take1.tail)))) (fun w hw => sameK_any bp ao ca bq ao2 ca2 p hp w hw.left.here) rfl ?_
        rintro ⟨⟩ -
        dsimp only [List.cons_append, List.nil_append]
        refine WL.on rfl rfl ?_
        refine WL.y (Yl.not rfl) rfl ?_
        refine WL.know (t := 188) (b' := false) rfl (by first | rfl | (simp; done) | (simp; omega)) ?_
        refine WL.y (Yl.pickF rfl rfl) rfl ?_
        refine WL.nil ?_
        refine WC.condF rfl (by first | rfl | (simp; done) | (simp; omega)) ?_
        refine WC.skip ?_
        refine WC.region ?_
        refine WL.y (Yl.add rfl rfl (IntWalk.i64_in _ (by omega))) rfl ?_
        refine WL.y (Yl.move rfl) rfl ?_
        refine WL.nil ?_
        exact ⟨rfl, (k + 1, ⟨bp, ao, ca, bq, ao2, ca2, p⟩), ⟨by dsimp only; omega, hp⟩, by dsimp only; omega, (by repeat (first | exact Sub.nil | refine Sub.cons rfl ?_)), _, (by repeat (first | exact TakeL.nil | (apply TakeL.cons; · repeat (first | exact Take1.head | apply Take1.tail))))⟩
    · refine WC.exit ?_
      refine WC.seq ?_
      refine WC.region ?_
      refine WL.y (Yl.assign rfl) rfl ?_
      refine WL.nil ?_
      refine WC.ret ?_
      repeat (first | (with_reducible refine peelT ?_) | (with_reducible refine peelB ?_) | (with_reducible refine peelTX ?_) | (with_reducible refine peelBX ?_) | (with_reducible refine peelBN ?_) | (with_reducible refine peelBO rfl ?_))
      exact ret1 (.inr rfl) Try.results4 rfl fun w' h => ⟨(), trivial, rfl, h.sub (by repeat (first | exact TakeL.nil | (apply TakeL.cons; · repeat (first | exact Take1.head | apply Take1.tail))))⟩
theorem plays_any (d : Int) (al : Option Addr) (cl : Nat) (l : List Doo) (hl : DOk l) (w : World) (hw : OK w (fpL [rdR (.slice al l.length cl) 9 l.length (vcs dooV l)]) [rdR (.slice al l.length cl) 9 l.length (vcs dooV l)] w) :
    Fn Try.prog 4 [.int .u8 d, .slice al l.length cl] [rdR (.slice al l.length cl) 9 l.length (vcs dooV l)] w (fun _ : Unit => True) (fun _ => .bool true) (fun _ => []) := by
  cases h : telU d with
  | false => exact playsNo_any d al cl l h w hw
  | true => exact playsYes_any d al cl l hl h w hw
end Go.Proofs.Ytnlibngncicobaa
