/- Books of records: what the calls come to, in plain Lean. -/
import Derived.Test.YtmcdbjbkkejbbaaGreatRecS
import Derived.Test.YtmcdbjbkkejbbaaGreatLibCb
namespace Go.Proofs.YtmcdbjbkkejbbaaGreat
open Go Go.RowKit
def cmpI (x y : Int) : Int := if x < y then -1 else if y < x then 1 else 0
theorem lex_cons (x y : Int) (xs ys : List Int) : lexF (x :: xs) (y :: ys) = if cmpI x y ≠ 0 then cmpI x y else lexF xs ys := by
  show (if x < y then -1 else if y < x then 1 else lexF xs ys) = _
  unfold cmpI
  by_cases h1 : x < y
  · simp [h1]
  · by_cases h2 : y < x
    · simp [h1, h2]
    · simp [h1, h2]
theorem lex_self : ∀ xs : List Int, lexF xs xs = 0
  | [] => rfl
  | x :: xs => by
    show (if x < x then -1 else if x < x then 1 else lexF xs xs) = 0
    rw [if_neg (by omega), if_neg (by omega), lex_self xs]
theorem lex_eq : ∀ {xs ys : List Int}, lexF xs ys = 0 → xs = ys
  | [], [], _ => rfl
  | [], _ :: _, h => by simp [lexF] at h
  | _ :: _, [], h => by simp [lexF] at h
  | x :: xs, y :: ys, h => by
    replace h : (if x < y then -1 else if y < x then 1 else lexF xs ys) = 0 := h
    split at h
    · omega
    · split at h
      · omega
      · have := lex_eq h
        rw [this, show x = y by omega]
theorem lex_neg : ∀ xs ys : List Int, lexF ys xs = - lexF xs ys
  | [], [] => rfl
  | [], _ :: _ => rfl
  | _ :: _, [] => rfl
  | x :: xs, y :: ys => by
    show (if y < x then -1 else if x < y then 1 else lexF ys xs) = - (if x < y then -1 else if y < x then 1 else lexF xs ys)
    have := lex_neg xs ys
    by_cases h1 : x < y
    · rw [if_neg (by omega), if_pos h1, if_pos h1]; decide
    · by_cases h2 : y < x
      · rw [if_pos h2, if_neg h1, if_pos h2]
      · rw [if_neg h2, if_neg h1, if_neg h1, if_neg h2, this]
theorem lex_trans : ∀ {xs ys zs : List Int}, lexF xs ys < 0 → lexF ys zs ≤ 0 → lexF xs zs < 0
  | [], [], _, h, _ => by simp [lexF] at h
  | [], _ :: _, [], _, h => by simp [lexF] at h
  | [], _ :: _, _ :: _, _, _ => by simp [lexF]
  | _ :: _, [], _, h, _ => by simp [lexF] at h
  | _ :: _, _ :: _, [], _, h => by simp [lexF] at h
  | x :: xs, y :: ys, z :: zs, h1, h2 => by
    replace h1 : (if x < y then (-1 : Int) else if y < x then 1 else lexF xs ys) < 0 := h1
    replace h2 : (if y < z then (-1 : Int) else if z < y then 1 else lexF ys zs) ≤ 0 := h2
    show (if x < z then (-1 : Int) else if z < x then 1 else lexF xs zs) < 0
    split at h1
    · split at h2
      · rw [if_pos (by omega)]; omega
      · split at h2
        · omega
        · rw [if_pos (by omega)]; omega
    · split at h1
      · omega
      · split at h2
        · rw [if_pos (by omega)]; omega
        · split at h2
          · omega
          · rw [if_neg (by omega), if_neg (by omega)]
            exact lex_trans h1 h2
theorem lex_le_trans {xs ys zs : List Int} (h1 : lexF xs ys ≤ 0) (h2 : lexF ys zs ≤ 0) : lexF xs zs ≤ 0 := by
  by_cases h : lexF xs ys < 0
  · exact Int.le_of_lt (lex_trans h h2)
  · rw [lex_eq (show lexF xs ys = 0 by omega)]; exact h2
/-- An outcome's rank. -/
def rkF (o : Int) : Int := if o = 1 then 0 else if o = 4 then 1 else if o = 2 then 2 else if o = 7 then 3 else if o = 5 then 4 else if o = 6 then 5 else if o = 3 then 6 else -1
def keyF (r : Rc) : List Int := rkF r.oc :: -r.en :: r.bg :: recB r
def betF (a b : Rc) : Int := lexF (keyF a) (keyF b)
def betterF (a b : Rc) : Rc := if betF a b > 0 then b else a
def okeyF (r : Rc) : List Int := r.en :: r.id
def ordF (a b : Rc) : Int := lexF (okeyF a) (okeyF b)
theorem cmpI_neg (x y : Int) : cmpI (-x) (-y) = cmpI y x := by unfold cmpI; split <;> split <;> (try split) <;> omega
theorem bet_or (a b : Rc) : betF a b = if cmpI (rkF a.oc) (rkF b.oc) ≠ 0 then cmpI (rkF a.oc) (rkF b.oc) else if cmpI b.en a.en ≠ 0 then cmpI b.en a.en else if cmpI a.bg b.bg ≠ 0 then cmpI a.bg b.bg else lexF (recB a) (recB b) := by
  unfold betF keyF
  rw [lex_cons, lex_cons, lex_cons, cmpI_neg]
theorem ord_or (a b : Rc) : ordF a b = if cmpI a.en b.en ≠ 0 then cmpI a.en b.en else lexF a.id b.id := by
  unfold ordF okeyF
  rw [lex_cons]
/-- A record in a book. -/
structure Bk (r : Rc) : Prop where
  ok : r.ok
  may : mayB r = true
theorem recB_inj {a b : Rc} (ha : a.ok) (hb : b.ok) (h : recB a = recB b) : a = b := by
  have h1 := recOf_recB ha
  have h2 := recOf_recB hb
  rw [← h1, ← h2, h]
theorem bet_eq {a b : Rc} (ha : a.ok) (hb : b.ok) (h : betF a b = 0) : a = b := by
  have := lex_eq h
  unfold keyF at this
  simp only [List.cons.injEq] at this
  exact recB_inj ha hb this.2.2.2
theorem bet_self (a : Rc) : betF a a = 0 := lex_self _
theorem bet_neg (a b : Rc) : betF b a = - betF a b := lex_neg _ _
theorem ord_eq {a b : Rc} (h : ordF a b = 0) : a.id = b.id := by
  have := lex_eq h
  unfold okeyF at this
  simp only [List.cons.injEq] at this
  exact this.2
/-- A book's list: in order, each id once. -/
structure Book (l : List Rc) : Prop where
  bk : ∀ r ∈ l, Bk r
  ord : l.Pairwise fun a b => ordF a b < 0
  ids : l.Pairwise fun a b => a.id ≠ b.id
theorem Book.nil : Book [] := ⟨(fun _ h => nomatch h), List.Pairwise.nil, List.Pairwise.nil⟩
/-- The place of a record that is put in order. -/
def posM (l : List Rc) (r : Rc) : Nat := (l.takeWhile fun x => decide (ordF x r < 0)).length
def insF (l : List Rc) (r : Rc) : List Rc := l.take (posM l r) ++ r :: l.drop (posM l r)
theorem posM_le (l : List Rc) (r : Rc) : posM l r ≤ l.length := (List.takeWhile_prefix _).length_le
theorem pos_of' {l : List Rc} {r : Rc} {i : Nat} (hi : i ≤ l.length) (hlo : ∀ (j : Nat) x, j < i → l[j]? = some x → ordF x r < 0) (hhi : ∀ x, l[i]? = some x → ¬ ordF x r < 0) : posM l r = i := by
  induction l generalizing i with
  | nil =>
    simp at hi
    subst hi
    rfl
  | cons y l ih =>
    unfold posM
    cases i with
    | zero =>
      have := hhi y rfl
      rw [List.takeWhile_cons, if_neg (by simpa using this)]
      rfl
    | succ i =>
      have h0 := hlo 0 y (by omega) rfl
      rw [List.takeWhile_cons, if_pos (by simpa using h0), List.length_cons]
      have := ih (i := i) (by simpa using hi) (fun j x hj hx => hlo (j + 1) x (by omega) (by simpa using hx)) (fun x hx => hhi x (by simpa using hx))
      unfold posM at this
      rw [this]
theorem ins_mem {l : List Rc} {r x : Rc} : x ∈ insF l r ↔ x = r ∨ x ∈ l := by
  unfold insF
  rw [List.mem_append, List.mem_cons]
  have : x ∈ l ↔ x ∈ l.take (posM l r) ∨ x ∈ l.drop (posM l r) := by rw [← List.mem_append, List.take_append_drop]
  rw [this]
  constructor
  · rintro (h | h | h)
    · exact .inr (.inl h)
    · exact .inl h
    · exact .inr (.inr h)
  · rintro (h | h | h)
    · exact .inr (.inl h)
    · exact .inl h
    · exact .inr (.inr h)
theorem ins_len (l : List Rc) (r : Rc) : (insF l r).length = l.length + 1 := by
  have := posM_le l r
  unfold insF
  rw [List.length_append, List.length_take, List.length_cons, List.length_drop]
  omega
theorem ord_neg (a b : Rc) : ordF b a = - ordF a b := lex_neg _ _
theorem takeWhile_all {p : Rc → Bool} : ∀ {l : List Rc} {x : Rc}, x ∈ l.takeWhile p → p x = true
  | [], _, h => nomatch h
  | y :: l, x, h => by
    rw [List.takeWhile_cons] at h
    split at h
    · rename_i hp
      rcases List.mem_cons.1 h with rfl | h
      · exact hp
      · exact takeWhile_all h
    · cases h
theorem take_pos {l : List Rc} {r x : Rc} (h : x ∈ l.take (posM l r)) : ordF x r < 0 := by
  have e : l.take (posM l r) = l.takeWhile fun x => decide (ordF x r < 0) := by
    unfold posM
    exact (List.prefix_iff_eq_take.1 (List.takeWhile_prefix _)).symm
  rw [e] at h
  simpa using takeWhile_all h
theorem drop_pos {l : List Rc} {r x : Rc} (hs : l.Pairwise fun a b => ordF a b < 0) (h : x ∈ l.drop (posM l r)) : ¬ ordF x r < 0 := by
  have e : l.drop (posM l r) = l.dropWhile fun x => decide (ordF x r < 0) := by
    unfold posM
    have h1 := List.takeWhile_append_dropWhile (p := fun x => decide (ordF x r < 0)) (l := l)
    have := congrArg (List.drop (l.takeWhile fun x => decide (ordF x r < 0)).length) h1
    rw [List.drop_left' rfl] at this
    exact this.symm
  cases hd : l.drop (posM l r) with
  | nil => rw [hd] at h; cases h
  | cons y ys =>
    have hy : ¬ ordF y r < 0 := by
      have hne : (l.dropWhile fun x => decide (ordF x r < 0)) ≠ [] := by rw [← e, hd]; simp
      have := List.head_dropWhile_not (fun x => decide (ordF x r < 0)) hne
      have hh : (l.dropWhile fun x => decide (ordF x r < 0)).head hne = y := by
        have h2 : (l.dropWhile fun x => decide (ordF x r < 0)) = y :: ys := by rw [← e, hd]
        simp only [h2, List.head_cons]
      rw [hh] at this
      simpa using this
    have hsd : (y :: ys).Pairwise fun a b => ordF a b < 0 := by
      rw [← hd]
      exact hs.sublist (List.drop_sublist _ _)
    rw [hd] at h
    rcases List.mem_cons.1 h with rfl | h
    · exact hy
    · have h1 := (List.pairwise_cons.1 hsd).1 x h
      intro h2
      exact hy (lex_trans h1 (Int.le_of_lt h2))
/-- A list in order, each id once. -/
structure Ordl (l : List Rc) : Prop where
  ok : ∀ r ∈ l, r.ok
  ord : l.Pairwise fun a b => ordF a b < 0
  ids : l.Pairwise fun a b => a.id ≠ b.id
theorem Book.ordl {l : List Rc} (h : Book l) : Ordl l := ⟨fun r hr => (h.bk r hr).ok, h.ord, h.ids⟩
theorem Ordl.nil : Ordl [] := ⟨(fun _ h => nomatch h), List.Pairwise.nil, List.Pairwise.nil⟩
theorem Ordl.ins {l : List Rc} {r : Rc} (h : Ordl l) (hr : r.ok) (hid : ∀ x ∈ l, x.id ≠ r.id) : Ordl (insF l r) := by
  refine ⟨fun x hx => ?_, ?_, ?_⟩
  · rcases ins_mem.1 hx with rfl | hx
    · exact hr
    · exact h.ok x hx
  · have hs := h.ord
    have hs' := hs
    rw [← List.take_append_drop (posM l r) l] at hs'
    obtain ⟨s1, s2, s3⟩ := List.pairwise_append.1 hs'
    unfold insF
    refine List.pairwise_append.2 ⟨s1, List.pairwise_cons.2 ⟨fun x hx => ?_, s2⟩, fun a ha b hb => ?_⟩
    · have h1 := drop_pos hs hx
      have h2 : ordF x r ≠ 0 := fun e => hid x (List.mem_of_mem_drop hx) (ord_eq e)
      rw [ord_neg]
      omega
    · rcases List.mem_cons.1 hb with rfl | hb
      · exact take_pos ha
      · exact s3 a ha b hb
  · have hs' := h.ids
    rw [← List.take_append_drop (posM l r) l] at hs'
    obtain ⟨s1, s2, s3⟩ := List.pairwise_append.1 hs'
    unfold insF
    refine List.pairwise_append.2 ⟨s1, List.pairwise_cons.2 ⟨fun x hx => ?_, s2⟩, fun a ha b hb => ?_⟩
    · exact fun e => hid x (List.mem_of_mem_drop hx) e.symm
    · rcases List.mem_cons.1 hb with rfl | hb
      · exact hid a (List.mem_of_mem_take ha)
      · exact s3 a ha b hb
theorem Book.ins {l : List Rc} {r : Rc} (h : Book l) (hr : Bk r) (hid : ∀ x ∈ l, x.id ≠ r.id) : Book (insF l r) := by
  have := h.ordl.ins hr.ok hid
  refine ⟨fun x hx => ?_, this.ord, this.ids⟩
  rcases ins_mem.1 hx with rfl | hx
  · exact hr
  · exact h.bk x hx
theorem Book.del {l : List Rc} (h : Book l) (i : Nat) : Book (l.take i ++ l.drop (i + 1)) := by
  have hsub : (l.take i ++ l.drop (i + 1)).Sublist l := by
    have : l.take i ++ l.drop (i + 1) = l.eraseIdx i := by rw [List.eraseIdx_eq_take_drop_succ]
    rw [this]
    exact List.eraseIdx_sublist _ _
  exact ⟨fun r hr => h.bk r (hsub.subset hr), h.ord.sublist hsub, h.ids.sublist hsub⟩
/-- The place of an id: none or some. -/
def plcF (l : List Rc) (id : List Int) : Option Nat := l.findIdx? fun x => decide (x.id = id)
theorem plc_none {l : List Rc} {id : List Int} (h : plcF l id = none) : ∀ x ∈ l, x.id ≠ id := by
  intro x hx
  have := List.findIdx?_eq_none_iff.1 h x hx
  simpa using this
theorem plc_some {l : List Rc} {id : List Int} {i : Nat} (h : plcF l id = some i) : ∃ x, l[i]? = some x ∧ x.id = id := by
  obtain ⟨hl, h1, _⟩ := List.findIdx?_eq_some_iff_getElem.1 h
  exact ⟨l[i], List.getElem?_eq_getElem hl, by simpa using h1⟩
theorem plc_is {l : List Rc} {id : List Int} {i : Nat} {x : Rc} (hx : l[i]? = some x) (he : x.id = id) (hlo : ∀ (j : Nat) y, j < i → l[j]? = some y → y.id ≠ id) : plcF l id = some i := by
  obtain ⟨hl, hv⟩ := List.getElem?_eq_some_iff.1 hx
  exact List.findIdx?_eq_some_iff_getElem.2 ⟨hl, by simp [hv, he], fun j hj => by
    have := hlo j _ hj (List.getElem?_eq_getElem (by omega))
    simpa using this⟩
theorem plc_no {l : List Rc} {id : List Int} (h : ∀ x ∈ l, x.id ≠ id) : plcF l id = none := List.findIdx?_eq_none_iff.2 fun x hx => decide_eq_false (h x hx)
/-- A record taken in: the list, whether it is otherwise. -/
def takeF (l : List Rc) (r : Rc) : List Rc × Bool :=
  if mayB r then
    match plcF l r.id with
    | none => (insF l r, true)
    | some i => match l[i]? with
      | none => (l, false)
      | some x => if 0 < betF x r then (insF (l.take i ++ l.drop (i + 1)) r, true) else (l, false)
  else (l, false)
theorem take_bad {l : List Rc} {r : Rc} (h : mayB r = false) : takeF l r = (l, false) := by
  unfold takeF
  rw [h]
  rfl
theorem take_new {l : List Rc} {r : Rc} (h : mayB r = true) (hp : plcF l r.id = none) : takeF l r = (insF l r, true) := by
  unfold takeF
  rw [h, hp]
  rfl
theorem take_old {l : List Rc} {r x : Rc} {i : Nat} (h : mayB r = true) (hp : plcF l r.id = some i) (hx : l[i]? = some x) : takeF l r = if 0 < betF x r then (insF (l.take i ++ l.drop (i + 1)) r, true) else (l, false) := by
  unfold takeF
  rw [h, hp]
  simp only [if_true, hx]
theorem ids_del {l : List Rc} (h : Book l) {i : Nat} {x : Rc} (hx : l[i]? = some x) : ∀ y ∈ l.take i ++ l.drop (i + 1), y.id ≠ x.id := by
  have hsp := h.ids
  have hd : l.drop i = x :: l.drop (i + 1) := by rw [List.drop_eq_getElem?_toList_append, hx]; rfl
  rw [← List.take_append_drop i l, hd] at hsp
  obtain ⟨s1, s2, s3⟩ := List.pairwise_append.1 hsp
  intro y hy
  rcases List.mem_append.1 hy with hy | hy
  · exact s3 y hy x (List.mem_cons_self ..)
  · exact fun e => (List.pairwise_cons.1 s2).1 y hy e.symm
theorem del_mem' {l : List Rc} (h : Book l) {i : Nat} {x y : Rc} (hx : l[i]? = some x) : y ∈ l.take i ++ l.drop (i + 1) ↔ y ∈ l ∧ y.id ≠ x.id := by
  constructor
  · intro hy
    refine ⟨?_, ids_del h hx y hy⟩
    rcases List.mem_append.1 hy with hy | hy
    · exact List.mem_of_mem_take hy
    · exact List.mem_of_mem_drop hy
  · rintro ⟨hy, hne⟩
    have hd : l.drop i = x :: l.drop (i + 1) := by rw [List.drop_eq_getElem?_toList_append, hx]; rfl
    rw [← List.take_append_drop i l, hd, List.mem_append, List.mem_cons] at hy
    rcases hy with hy | rfl | hy
    · exact List.mem_append_left _ hy
    · exact absurd rfl hne
    · exact List.mem_append_right _ hy
theorem Book.take {l : List Rc} {r : Rc} (h : Book l) (hr : r.ok) : Book (takeF l r).1 := by
  cases hm : mayB r with
  | false => rw [take_bad hm]; exact h
  | true =>
    cases hp : plcF l r.id with
    | none => rw [take_new hm hp]; exact h.ins ⟨hr, hm⟩ (plc_none hp)
    | some i =>
      obtain ⟨x, hx, he⟩ := plc_some hp
      rw [take_old hm hp hx]
      split
      · exact (h.del i).ins ⟨hr, hm⟩ (by rw [← he]; exact ids_del h hx)
      · exact h
theorem take_len (l : List Rc) (r : Rc) : (takeF l r).1.length ≤ l.length + 1 := by
  cases hm : mayB r with
  | false => rw [take_bad hm]; exact Nat.le_succ _
  | true =>
    cases hp : plcF l r.id with
    | none => rw [take_new hm hp, ins_len]; exact Nat.le_refl _
    | some i =>
      obtain ⟨x, hx, he⟩ := plc_some hp
      rw [take_old hm hp hx]
      split
      · rw [ins_len, List.length_append, List.length_take, List.length_drop]
        omega
      · exact Nat.le_succ _
/-- Records taken in, one behind the other: the list, how many changed it. -/
def b2n (b : Bool) : Nat := if b then 1 else 0
theorem b2n_le (b : Bool) : b2n b ≤ 1 := by cases b <;> decide
def joinF (l : List Rc) : List Rc → List Rc × Nat
  | [] => (l, 0)
  | r :: rs => ((joinF (takeF l r).1 rs).1, (joinF (takeF l r).1 rs).2 + b2n (takeF l r).2)
theorem join_snoc : ∀ (rs : List Rc) (l : List Rc) (r : Rc), joinF l (rs ++ [r]) = ((takeF (joinF l rs).1 r).1, (joinF l rs).2 + b2n (takeF (joinF l rs).1 r).2)
  | [], l, r => by simp [joinF]
  | s :: rs, l, r => by
    have ih := join_snoc rs (takeF l s).1 r
    show ((joinF (takeF l s).1 (rs ++ [r])).1, (joinF (takeF l s).1 (rs ++ [r])).2 + _) = _
    rw [ih]
    simp only [joinF]
    congr 1
    omega
theorem join_app : ∀ (rs ss : List Rc) (l : List Rc), (joinF l (rs ++ ss)).1 = (joinF (joinF l rs).1 ss).1
  | [], _, _ => rfl
  | r :: rs, ss, l => join_app rs ss (takeF l r).1
theorem Book.join : ∀ {rs : List Rc} {l : List Rc}, Book l → (∀ r ∈ rs, r.ok) → Book (joinF l rs).1
  | [], _, h, _ => h
  | r :: rs, _, h, hr => Book.join (rs := rs) (h.take (hr r (by simp))) (fun s hs => hr s (by simp [hs]))
theorem join_len : ∀ (rs : List Rc) (l : List Rc), (joinF l rs).1.length ≤ l.length + rs.length ∧ (joinF l rs).2 ≤ rs.length
  | [], l => ⟨Nat.le_refl _, Nat.le_refl _⟩
  | r :: rs, l => by
    obtain ⟨h1, h2⟩ := join_len rs (takeF l r).1
    have h3 := take_len l r
    simp only [joinF, List.length_cons]
    have h4 := b2n_le (takeF l r).2
    constructor <;> omega

/-! ### Views -/
/-- A record as wide as those of a list with its id. -/
def wid1 (r : Rc) (l : List Rc) : Rc := match l.find? (fun x => decide (x.id = r.id)) with
  | none => r
  | some x => { r with bg := if x.bg < r.bg then x.bg else r.bg, en := if r.en < x.en then x.en else r.en }
def widF (r : Rc) (bs : List (List Rc)) : Rc := bs.foldl wid1 r
theorem wid1_id (r : Rc) (l : List Rc) : (wid1 r l).id = r.id := by unfold wid1; split <;> rfl
theorem wid1_ok {r : Rc} {l : List Rc} (hr : r.ok) (hl : ∀ x ∈ l, x.ok) : (wid1 r l).ok := by
  unfold wid1
  split
  · exact hr
  · rename_i x hx
    have hx := hl x (List.mem_of_find?_eq_some hx)
    refine ⟨hr.len, hr.id, hr.peer, hr.oc, ?_, hr.an, ?_⟩
    · show U64 (if x.bg < r.bg then x.bg else r.bg)
      split
      · exact hx.bg
      · exact hr.bg
    · show U64 (if r.en < x.en then x.en else r.en)
      split
      · exact hx.en
      · exact hr.en
theorem widF_id (bs : List (List Rc)) : ∀ r : Rc, (widF r bs).id = r.id := by
  induction bs with
  | nil => intro r; rfl
  | cons b bs ih => intro r; exact (ih (wid1 r b)).trans (wid1_id r b)
theorem widF_ok {bs : List (List Rc)} (hb : ∀ l ∈ bs, ∀ x ∈ l, x.ok) : ∀ {r : Rc}, r.ok → (widF r bs).ok := by
  induction bs with
  | nil => intro r hr; exact hr
  | cons b bs ih => intro r hr; exact ih (fun l hl => hb l (by simp [hl])) (wid1_ok hr (hb b (by simp)))
def viewF (best : List Rc) (bs : List (List Rc)) : List Rc := best.foldl (fun out r => insF out (widF r bs)) []
theorem view_ord {bs : List (List Rc)} (hb : ∀ l ∈ bs, ∀ x ∈ l, x.ok) : ∀ {rs out : List Rc}, Ordl out → (∀ r ∈ rs, r.ok) → (rs.Pairwise fun a b => a.id ≠ b.id) → (∀ x ∈ out, ∀ r ∈ rs, x.id ≠ r.id) → Ordl (rs.foldl (fun out r => insF out (widF r bs)) out) ∧ (rs.foldl (fun out r => insF out (widF r bs)) out).length = out.length + rs.length
  | [], _, h, _, _, _ => ⟨h, rfl⟩
  | r :: rs, out, h, hr, hi, hx => by
    obtain ⟨i1, i2⟩ := List.pairwise_cons.1 hi
    have h1 := h.ins (widF_ok hb (hr r (by simp))) (fun x hx1 => by rw [widF_id]; exact hx x hx1 r (by simp))
    obtain ⟨a, b⟩ := view_ord hb h1 (rs := rs) (fun s hs => hr s (by simp [hs])) i2 (fun x hx1 s hs => by
      rcases ins_mem.1 hx1 with rfl | hx1
      · rw [widF_id]; exact i1 s hs
      · exact hx x hx1 s (by simp [hs]))
    refine ⟨a, ?_⟩
    rw [List.foldl_cons, b, ins_len, List.length_cons]
    omega
/-- .. as the document goes over a list. -/
def step1 (id : List Int) (r x : Rc) : Rc := if x.id = id then { r with bg := if x.bg < r.bg then x.bg else r.bg, en := if r.en < x.en then x.en else r.en } else r
theorem step1_no {id : List Int} : ∀ {l : List Rc} (r : Rc), (∀ x ∈ l, x.id ≠ id) → l.foldl (step1 id) r = r
  | [], _, _ => rfl
  | x :: l, r, h => by
    rw [List.foldl_cons]
    have e : step1 id r x = r := if_neg (h x (by simp))
    rw [e]
    exact step1_no r (fun y hy => h y (by simp [hy]))
theorem wid1_fold {l : List Rc} (r : Rc) (h : l.Pairwise fun a b => a.id ≠ b.id) : l.foldl (step1 r.id) r = wid1 r l := by
  unfold wid1
  have key : ∀ (l : List Rc) (s : Rc), (l.Pairwise fun a b => a.id ≠ b.id) → l.foldl (step1 r.id) s = match l.find? (fun x => decide (x.id = r.id)) with
      | none => s
      | some x => { s with bg := if x.bg < s.bg then x.bg else s.bg, en := if s.en < x.en then x.en else s.en } := by
    intro l
    induction l with
    | nil => intro s _; rfl
    | cons x l ih =>
      intro s h
      obtain ⟨h1, h2⟩ := List.pairwise_cons.1 h
      rw [List.foldl_cons, List.find?_cons]
      by_cases hx : x.id = r.id
      · rw [decide_eq_true hx]
        unfold step1
        rw [if_pos hx]
        exact step1_no _ (fun y hy e => h1 y hy (hx.trans e.symm))
      · rw [decide_eq_false hx]
        have e : step1 r.id s x = s := if_neg hx
        rw [e]
        exact ih s h2
  exact key l r h

/-! ### Whatever the order -/
/-- The best ones of some records, by their ids. -/
structure Best (l xs : List Rc) : Prop where
  bk : Book l
  sub : ∀ r ∈ l, r ∈ xs
  top : ∀ s ∈ xs, mayB s = true → ∃ r ∈ l, r.id = s.id ∧ betF r s ≤ 0
theorem best_take {l xs : List Rc} {r : Rc} (h : Best l xs) (hr : r.ok) : Best (takeF l r).1 (xs ++ [r]) := by
  cases hm : mayB r with
  | false =>
    rw [take_bad hm]
    refine ⟨h.bk, fun s hs => List.mem_append_left _ (h.sub s hs), fun s hs hms => ?_⟩
    rcases List.mem_append.1 hs with hs | hs
    · exact h.top s hs hms
    · rw [List.mem_singleton.1 hs, hm] at hms
      cases hms
  | true =>
    have hbk := h.bk.take hr
    cases hp : plcF l r.id with
    | none =>
      rw [take_new hm hp] at hbk ⊢
      refine ⟨hbk, fun s hs => ?_, fun s hs hms => ?_⟩
      · rcases ins_mem.1 hs with rfl | hs
        · exact List.mem_append_right _ (by simp)
        · exact List.mem_append_left _ (h.sub s hs)
      · rcases List.mem_append.1 hs with hs | hs
        · obtain ⟨t, h1, h2, h3⟩ := h.top s hs hms
          exact ⟨t, ins_mem.2 (.inr h1), h2, h3⟩
        · rw [List.mem_singleton.1 hs]
          exact ⟨r, ins_mem.2 (.inl rfl), rfl, by rw [bet_self]; exact Int.le_refl _⟩
    | some i =>
      obtain ⟨x, hx, he⟩ := plc_some hp
      rw [take_old hm hp hx] at hbk ⊢
      split
      · rename_i hb
        rw [if_pos hb] at hbk
        refine ⟨hbk, fun s hs => ?_, fun s hs hms => ?_⟩
        · rcases ins_mem.1 hs with rfl | hs
          · exact List.mem_append_right _ (by simp)
          · exact List.mem_append_left _ (h.sub s ((del_mem' h.bk hx).1 hs).1)
        · have hrx : betF r x < 0 := by rw [bet_neg]; omega
          rcases List.mem_append.1 hs with hs | hs
          · obtain ⟨t, h1, h2, h3⟩ := h.top s hs hms
            by_cases ht : t.id = x.id
            · have htx : t = x := by
                obtain ⟨j, hj⟩ := List.mem_iff_getElem?.1 h1
                obtain ⟨lj, ej⟩ := List.getElem?_eq_some_iff.1 hj
                obtain ⟨li, ei⟩ := List.getElem?_eq_some_iff.1 hx
                rcases Nat.lt_trichotomy i j with hij | hij | hij
                · have := List.pairwise_iff_getElem.1 h.bk.ids i j li lj hij
                  rw [ei, ej] at this
                  exact absurd ht.symm this
                · subst hij
                  rw [hx] at hj
                  exact (Option.some.inj hj).symm
                · have := List.pairwise_iff_getElem.1 h.bk.ids j i lj li hij
                  rw [ei, ej] at this
                  exact absurd ht this
              subst htx
              exact ⟨r, ins_mem.2 (.inl rfl), he.symm.trans h2, Int.le_of_lt (lex_trans hrx h3)⟩
            · exact ⟨t, ins_mem.2 (.inr ((del_mem' h.bk hx).2 ⟨h1, ht⟩)), h2, h3⟩
          · rw [List.mem_singleton.1 hs]
            exact ⟨r, ins_mem.2 (.inl rfl), rfl, by rw [bet_self]; exact Int.le_refl _⟩
      · rename_i hb
        rw [if_neg hb] at hbk
        refine ⟨hbk, fun s hs => List.mem_append_left _ (h.sub s hs), fun s hs hms => ?_⟩
        rcases List.mem_append.1 hs with hs | hs
        · exact h.top s hs hms
        · rw [List.mem_singleton.1 hs]
          exact ⟨x, List.mem_of_getElem? hx, he, by omega⟩
theorem best_join : ∀ {rs l xs : List Rc}, Best l xs → (∀ r ∈ rs, r.ok) → Best (joinF l rs).1 (xs ++ rs)
  | [], _, _, h, _ => by rw [List.append_nil]; exact h
  | r :: rs, l, xs, h, hr => by
    have := best_join (rs := rs) (best_take h (hr r (by simp))) (fun s hs => hr s (by simp [hs]))
    rw [List.append_assoc] at this
    exact this
theorem Best.nil : Best [] [] := ⟨Book.nil, (fun _ h => nomatch h), (fun _ h => nomatch h)⟩
theorem best_mem {l xs : List Rc} (h : Best l xs) (r : Rc) : r ∈ l ↔ r ∈ xs ∧ mayB r = true ∧ r.ok ∧ ∀ s ∈ l, s.id = r.id → s = r := by
  constructor
  · intro hr
    refine ⟨h.sub r hr, (h.bk.bk r hr).may, (h.bk.bk r hr).ok, fun s hs he => ?_⟩
    obtain ⟨i, hi⟩ := List.mem_iff_getElem?.1 hr
    obtain ⟨j, hj⟩ := List.mem_iff_getElem?.1 hs
    obtain ⟨li, ei⟩ := List.getElem?_eq_some_iff.1 hi
    obtain ⟨lj, ej⟩ := List.getElem?_eq_some_iff.1 hj
    rcases Nat.lt_trichotomy i j with hij | hij | hij
    · have := List.pairwise_iff_getElem.1 h.bk.ids i j li lj hij
      rw [ei, ej] at this
      exact absurd he.symm this
    · subst hij
      rw [hi] at hj
      exact (Option.some.inj hj).symm
    · have := List.pairwise_iff_getElem.1 h.bk.ids j i lj li hij
      rw [ei, ej] at this
      exact absurd he this
  · rintro ⟨h1, h2, _, h3⟩
    obtain ⟨s, hs, he, _⟩ := h.top r h1 h2
    rw [← h3 s hs he]
    exact hs
/-- Two books of the same records are one. -/
theorem best_one {l m xs ys : List Rc} (h : Best l xs) (k : Best m ys) (hxy : ∀ r, mayB r = true → (r ∈ xs ↔ r ∈ ys)) : l = m := by
  have one : ∀ {l m xs ys : List Rc}, Best l xs → Best m ys → (∀ r, mayB r = true → (r ∈ xs ↔ r ∈ ys)) → ∀ r ∈ l, r ∈ m := by
    intro l m xs ys h k hxy r hr
    have hb := h.bk.bk r hr
    obtain ⟨s, hs, he, hle⟩ := k.top r ((hxy r hb.may).1 (h.sub r hr)) hb.may
    have hsb := k.bk.bk s hs
    obtain ⟨t, ht, he2, hle2⟩ := h.top s ((hxy s hsb.may).2 (k.sub s hs)) hsb.may
    have htr : t = r := ((best_mem h r).1 hr).2.2.2 t ht (he2.trans he)
    subst htr
    have : betF t s = 0 := by
      rw [bet_neg] at hle
      omega
    rw [bet_eq hb.ok hsb.ok this]
    exact hs
  have hlm : ∀ r, r ∈ l ↔ r ∈ m := fun r => ⟨one h k hxy r, one k h (fun r hr => (hxy r hr).symm) r⟩
  have nd : ∀ {l : List Rc}, Book l → l.Nodup := fun h => h.ids.imp fun hne e => hne (by rw [e])
  have hp : l.Perm m := (List.perm_ext_iff_of_nodup (nd h.bk) (nd k.bk)).2 hlm
  refine hp.eq_of_pairwise (le := fun a b => ordF a b < 0) (fun a b ha hb h1 h2 => ?_) h.bk.ord k.bk.ord
  rw [ord_neg] at h2
  omega
/-- What is in the book already changes nothing. -/
theorem best_same {l xs : List Rc} (h : Best l xs) {r : Rc} (hr : r ∈ xs) : takeF l r = (l, false) := by
  cases hm : mayB r with
  | false => exact take_bad hm
  | true =>
    obtain ⟨s, hs, he, hle⟩ := h.top r hr hm
    cases hp : plcF l r.id with
    | none => exact absurd he (plc_none hp s hs)
    | some i =>
      obtain ⟨x, hx, hxe⟩ := plc_some hp
      have : x = s := ((best_mem h s).1 hs).2.2.2 x (List.mem_of_getElem? hx) (hxe.trans he.symm)
      rw [take_old hm hp hx, this, if_neg (by omega)]
theorem best_again {l xs : List Rc} (h : Best l xs) : ∀ {rs : List Rc}, (∀ r ∈ rs, r ∈ xs) → joinF l rs = (l, 0)
  | [], _ => rfl
  | r :: rs, hr => by
    have h1 := best_same h (hr r (by simp))
    have h2 := best_again h (rs := rs) (fun s hs => hr s (by simp [hs]))
    simp only [joinF, h1, h2]
    rfl
end Go.Proofs.YtmcdbjbkkejbbaaGreat
