import PyProof.Rows.All
import Wide.All
import OpenK.AllK
import Wide.FinOn
import PyProof.EqAt
import PyProof.EqKinds
import PyProof.TupleCall
import Open.SpecLaws
import KE.OsGo
import HandS.Base
import HandS.Call
import HandS.List
import HandS.Comp
import HandS.Iter
import HandS.Ends
import HandS.Words
import HandS.WordsList
import HandS.Spec
import HandS.WideBits
import HandS.TupLe
import HandS.SortInts
import KE.LtSeq
import PySem.Challenge.RW_smallgraphs_s01_form
set_option Elab.async false
set_option linter.all false
set_option maxRecDepth 100000
set_option maxHeartbeats 4000000
namespace Sg
open Sf20

/-! ### plain: graphs -/
theorem good_iff (g : Graph) : good g = true ↔ (1 ≤ g.length ∧ g.length ≤ 16) ∧ (∀ i, i < g.length → g.getD i 0 < 2 ^ g.length) ∧
    (∀ i, i < g.length → joined g i i = false) ∧ ∀ i j, i < g.length → j < g.length → joined g i j = joined g j i := by
  have key : (g.all fun r => decide (r < 2 ^ g.length)) = true ↔ ∀ i, i < g.length → g.getD i 0 < 2 ^ g.length := by
    rw [List.all_eq_true]
    constructor
    · intro h i hi
      have e : g.getD i 0 = g[i] := by simp [hi]
      rw [e]
      exact of_decide_eq_true (h _ (List.getElem_mem hi))
    · intro h r hr
      obtain ⟨i, hi, rfl⟩ := List.getElem_of_mem hr
      have e : g.getD i 0 = g[i] := by simp [hi]
      have q := h i hi
      rw [e] at q
      exact decide_eq_true q
  unfold good
  rw [Bool.and_eq_true, Bool.and_eq_true, Bool.and_eq_true, key, List.all_eq_true]
  simp only [decide_eq_true_eq, List.mem_range, MOST, Bool.and_eq_true, Bool.not_eq_true', List.all_eq_true, beq_iff_eq]
  constructor
  · rintro ⟨⟨⟨h0, h1⟩, h2⟩, h3⟩
    exact ⟨⟨h0, of_decide_eq_true h1⟩, h2, fun i hi => (h3 i hi).1, fun i j hi hj => (h3 i hi).2 j hj⟩
  · rintro ⟨h1, h2, h3, h4⟩
    exact ⟨⟨⟨h1.1, decide_eq_true h1.2⟩, h2⟩, fun i hi => ⟨h3 i hi, fun j hj => h4 i j hi hj⟩⟩
theorem good_len {g : Graph} (h : good g = true) : 1 ≤ g.length ∧ g.length ≤ 16 := ((good_iff g).mp h).1
theorem good_no {g : Graph} (h : good g = true) (i : Nat) : joined g i i = false := by
  by_cases hi : i < g.length
  · exact ((good_iff g).mp h).2.2.1 i hi
  · unfold joined
    have e : g.getD i 0 = 0 := by simp [List.getD, List.getElem?_eq_none (Nat.le_of_not_lt hi)]
    rw [e, Nat.zero_testBit]
theorem good_sym {g : Graph} (h : good g = true) {i j : Nat} (hi : i < g.length) (hj : j < g.length) : joined g i j = joined g j i := ((good_iff g).mp h).2.2.2 i j hi hj
/-- the bit test of the program -/
theorem bit_joined (r j : Nat) : decide (((r : Int) / 2 ^ j) % 2 = 1) = r.testBit j := by
  rw [Nat.testBit_eq_decide_div_mod_eq]
  have e : ((r : Int) / 2 ^ j) % 2 = ((r / 2 ^ j % 2 : Nat) : Int) := by
    rw [Int.natCast_emod, Int.natCast_ediv, Int.natCast_pow]; rfl
  rw [e]
  exact decide_eq_decide.mpr (by omega)
theorem take_more {α : Type} {l : List α} {i : Nat} {x : α} (h : l[i]? = some x) : l.take (i + 1) = l.take i ++ [x] := by
  rw [List.take_add_one, h]; rfl
end Sg
namespace Sg
open Sf20
/-! ### plain: ways, grown node by node -/
/-- each place of the row is allowed behind those before it -/
def grown (step : Row → Nat → Bool) (m : Row) : Bool := (List.range m.length).all fun i => step (m.take i) (m.getD i 0)
theorem grown_nil (step : Row → Nat → Bool) : grown step [] = true := rfl
theorem all_congr {α : Type} {p q : α → Bool} : ∀ {l : List α}, (∀ x, x ∈ l → p x = q x) → l.all p = l.all q
  | [], _ => rfl
  | a :: l, h => by rw [List.all_cons, List.all_cons, h a (List.mem_cons_self ..), all_congr fun x hx => h x (List.mem_cons_of_mem _ hx)]
theorem grown_snoc (step : Row → Nat → Bool) (l : Row) (x : Nat) : grown step (l ++ [x]) = (grown step l && step l x) := by
  unfold grown
  rw [List.length_append, List.length_singleton, List.range_succ, List.all_append]
  congr 1
  · refine all_congr fun i hi => ?_
    have hi' := List.mem_range.mp hi
    rw [List.take_append_of_le_length (Nat.le_of_lt hi')]
    have e : (l ++ [x]).getD i 0 = l.getD i 0 := by simp [List.getD, List.getElem?_append_left hi']
    rw [e]
  · have e : (l ++ [x]).getD l.length 0 = x := by simp [List.getD]
    simp only [List.all_cons, List.all_nil, Bool.and_true, List.take_left', e]
/-- the nodes that may follow -/
def nexts (step : Row → Nat → Bool) (n : Nat) (l : Row) : List Nat := (List.range n).filter fun x => !l.contains x && step l x
/-- all rows that begin with l and have f more, each place allowed -/
def ways (step : Row → Nat → Bool) (n : Nat) : Nat → Row → List Row
  | 0, l => [l]
  | f + 1, l => (nexts step n l).flatMap fun x => ways step n f (l ++ [x])
theorem flatMap_congr' {α β : Type} {f g : α → List β} : ∀ {l : List α}, (∀ x, x ∈ l → f x = g x) → l.flatMap f = l.flatMap g
  | [], _ => rfl
  | a :: l, h => by
    rw [List.flatMap_cons, List.flatMap_cons, h a (List.mem_cons_self ..), flatMap_congr' fun x hx => h x (List.mem_cons_of_mem _ hx)]
theorem filter_congr' {α : Type} {p q : α → Bool} : ∀ {l : List α}, (∀ x, x ∈ l → p x = q x) → l.filter p = l.filter q
  | [], _ => rfl
  | a :: l, h => by
    have z := filter_congr' (l := l) (fun x hx => h x (List.mem_cons_of_mem _ hx))
    have y := h a (List.mem_cons_self ..)
    by_cases e : p a = true
    · rw [List.filter_cons_of_pos e, List.filter_cons_of_pos (by rw [← y]; exact e), z]
    · rw [List.filter_cons_of_neg e, List.filter_cons_of_neg (by rw [← y]; exact e), z]
theorem filter_flatMap' {α β : Type} {p : β → Bool} {f : α → List β} : ∀ {l : List α}, (l.flatMap f).filter p = l.flatMap fun x => (f x).filter p
  | [] => rfl
  | a :: l => by rw [List.flatMap_cons, List.flatMap_cons, List.filter_append, filter_flatMap']
theorem flatMap_filter' {α β : Type} {p : α → Bool} {f : α → List β} : ∀ {l : List α}, (l.filter p).flatMap f = l.flatMap fun x => if p x = true then f x else []
  | [] => rfl
  | a :: l => by
    rw [List.flatMap_cons]
    by_cases e : p a = true
    · rw [List.filter_cons_of_pos e, List.flatMap_cons, flatMap_filter', if_pos e]
    · rw [List.filter_cons_of_neg e, flatMap_filter', if_neg e, List.nil_append]
/-- one node more, at the end -/
theorem rows_step (step : Row → Nat → Bool) (n k : Nat) : (rows n (k + 1)).filter (grown step) = ((rows n k).filter (grown step)).flatMap fun l => (nexts step n l).map fun x => l ++ [x] := by
  show ((rows n k).flatMap fun l => ((List.range n).filter fun x => !l.contains x).map fun x => l ++ [x]).filter (grown step) = _
  rw [filter_flatMap', flatMap_filter']
  refine flatMap_congr' fun l _ => ?_
  rw [List.filter_map, List.filter_filter]
  by_cases e : grown step l = true
  · rw [if_pos e]
    unfold nexts
    congr 1
    refine filter_congr' fun x _ => ?_
    show (grown step (l ++ [x]) && !l.contains x) = _
    rw [grown_snoc, e, Bool.true_and, Bool.and_comm]
  · rw [if_neg e]
    have z : (List.range n).filter (fun a => (grown step ∘ fun x => l ++ [x]) a && !l.contains a) = [] := by
      rw [List.filter_eq_nil_iff]
      intro x _
      show ¬ (grown step (l ++ [x]) && !l.contains x) = true
      rw [grown_snoc, Bool.eq_false_iff.mpr e]
      simp
    rw [z]; rfl
/-- one by one from the front, or all rows at once from the back -/
theorem rows_front (step : Row → Nat → Bool) (n : Nat) : ∀ (k : Nat), (rows n k).filter (grown step) = ways step n k [] ∧ ∀ f, ((rows n k).filter (grown step)).flatMap (ways step n f) = ways step n (k + f) [] := by
  have two : ∀ k, ((rows n (k + 1)).filter (grown step)) = ((rows n k).filter (grown step)).flatMap fun l => ways step n 1 l := fun k => by
    rw [rows_step]
    refine flatMap_congr' fun l _ => ?_
    have e1 : ∀ L : List Nat, (L.flatMap fun x => ways step n 0 (l ++ [x])) = L.map fun x => l ++ [x] := fun L => by
      induction L with
      | nil => rfl
      | cons a L ih => rw [List.flatMap_cons, List.map_cons, ih]; rfl
    exact (e1 _).symm
  have one : ∀ k, ∀ f, ((rows n k).filter (grown step)).flatMap (ways step n f) = ways step n (k + f) [] := fun k => by
    induction k with
    | zero =>
      intro f
      show ([[]] : List Row).flatMap (ways step n f) = _
      rw [List.flatMap_cons, List.flatMap_nil, List.append_nil, Nat.zero_add]
    | succ k ih =>
      intro f
      rw [two k, List.flatMap_assoc]
      have e : (k + 1) + f = k + (f + 1) := by omega
      rw [e, ← ih (f + 1)]
      refine flatMap_congr' fun l _ => ?_
      show (((nexts step n l).flatMap fun x => [l ++ [x]]).flatMap fun y => ways step n f y) = (nexts step n l).flatMap fun x => ways step n f (l ++ [x])
      rw [List.flatMap_assoc]
      refine flatMap_congr' fun x _ => ?_
      rw [List.flatMap_cons, List.flatMap_nil, List.append_nil]
  intro k
  refine ⟨?_, one k⟩
  have z := one k 0
  rw [Nat.add_zero] at z
  rw [← z]
  have e : ∀ L : List Row, L.flatMap (ways step n 0) = L := fun L => by
    induction L with
    | nil => rfl
    | cons a L ih => rw [List.flatMap_cons, ih]; rfl
  rw [e]
theorem rows_ways (step : Row → Nat → Bool) (n k : Nat) : (rows n k).filter (grown step) = ways step n k [] := (rows_front step n k).1
/-- a member of rows -/
theorem rows_mem {n : Nat} : ∀ {k : Nat} {m : Row}, m ∈ rows n k → m.length = k ∧ m.Nodup ∧ ∀ x, x ∈ m → x < n
  | 0, m, h => by
    have e : m = [] := List.mem_singleton.mp h
    subst e
    exact ⟨rfl, List.nodup_nil, fun x hx => nomatch hx⟩
  | k + 1, m, h => by
    obtain ⟨l, hl, h2⟩ := List.mem_flatMap.mp h
    obtain ⟨x, hx, rfl⟩ := List.mem_map.mp h2
    obtain ⟨a, b⟩ := List.mem_filter.mp hx
    obtain ⟨h3, h4, h5⟩ := rows_mem hl
    have nx : x ∉ l := by simpa using b
    refine ⟨by rw [List.length_append, List.length_singleton, h3], ?_, fun y hy => ?_⟩
    · rw [List.nodup_append]
      exact ⟨h4, by simp, fun a ha b hb => by rw [List.mem_singleton.mp hb]; exact fun z => nx (z ▸ ha)⟩
    · rcases List.mem_append.mp hy with z | z
      · exact h5 y z
      · rw [List.mem_singleton.mp z]
        exact List.mem_range.mp a
/-- how many rows there may be -/
theorem ways_le (step : Row → Nat → Bool) (n : Nat) : ∀ (f : Nat) (l : Row), (ways step n f l).length ≤ n ^ f
  | 0, _ => Nat.le_refl _
  | f + 1, l => by
    have one : ∀ L : List Nat, (L.flatMap fun x => ways step n f (l ++ [x])).length ≤ L.length * n ^ f := fun L => by
      induction L with
      | nil => rw [List.flatMap_nil]; exact Nat.zero_le _
      | cons a L ih =>
        have q := ways_le step n f (l ++ [a])
        rw [List.flatMap_cons, List.length_append, List.length_cons, Nat.succ_mul]
        omega
    have q := one (nexts step n l)
    have r : (nexts step n l).length ≤ n := by
      have z : (nexts step n l).length ≤ (List.range n).length := List.length_filter_le _ _
      rw [List.length_range] at z
      exact z
    rw [Nat.pow_succ, Nat.mul_comm]
    exact Nat.le_trans q (Nat.mul_le_mul_right _ r)

/-! ### plain: what may_go asks -/
def stepX (exact : Bool) (a b : Graph) (x y : Row) (l : Row) (z : Nat) : Bool :=
  x.getD l.length 0 == y.getD z 0 && (List.range l.length).all fun i => (!joined a l.length i || joined b z (l.getD i 0)) && (!exact || !joined b z (l.getD i 0) || joined a l.length i)
theorem getD_take {m : Row} {i j : Nat} (h : j < i) : (m.take i).getD j 0 = m.getD j 0 := by
  simp [List.getD, h]
theorem mem_getD {m : Row} {i : Nat} (h : i < m.length) : m.getD i 0 ∈ m := by
  have e : m.getD i 0 = m[i] := by simp [h]
  rw [e]
  exact List.getElem_mem h
/-- what grown says, place by place -/
theorem grown_iff {exact : Bool} {a b : Graph} {x y m : Row} : grown (stepX exact a b x y) m = true ↔ (∀ i, i < m.length → x.getD i 0 = y.getD (m.getD i 0) 0) ∧
    ∀ i j, i < m.length → j < i → (joined a i j = true → joined b (m.getD i 0) (m.getD j 0) = true) ∧ (exact = true → joined b (m.getD i 0) (m.getD j 0) = true → joined a i j = true) := by
  unfold grown
  rw [List.all_eq_true]
  have key : ∀ i, i < m.length → (stepX exact a b x y (m.take i) (m.getD i 0) = true ↔ x.getD i 0 = y.getD (m.getD i 0) 0 ∧
      ∀ j, j < i → (joined a i j = true → joined b (m.getD i 0) (m.getD j 0) = true) ∧ (exact = true → joined b (m.getD i 0) (m.getD j 0) = true → joined a i j = true)) := fun i hi => by
    have l : (m.take i).length = i := by rw [List.length_take]; omega
    unfold stepX
    rw [l, Bool.and_eq_true, beq_iff_eq, List.all_eq_true]
    refine and_congr Iff.rfl ?_
    constructor
    · intro h j hj
      have q := h j (List.mem_range.mpr hj)
      rw [getD_take hj] at q
      revert q
      cases joined a i j <;> cases joined b (m.getD i 0) (m.getD j 0) <;> cases exact <;> simp
    · intro h j hj
      have hj' := List.mem_range.mp hj
      have q := h j hj'
      rw [getD_take hj']
      revert q
      cases joined a i j <;> cases joined b (m.getD i 0) (m.getD j 0) <;> cases exact <;> simp
  constructor
  · intro h
    exact ⟨fun i hi => ((key i hi).mp (h i (List.mem_range.mpr hi))).1, fun i j hi hj => ((key i hi).mp (h i (List.mem_range.mpr hi))).2 j hj⟩
  · rintro ⟨h1, h2⟩ i hi
    have hi' := List.mem_range.mp hi
    exact (key i hi').mpr ⟨h1 i hi', fun j hj => h2 i j hi' hj⟩
theorem isWay_iff {a b : Graph} {x y m : Row} : isWay a b x y m = true ↔ (∀ i, i < a.length → x.getD i 0 = y.getD (m.getD i 0) 0) ∧ ∀ i j, i < a.length → j < a.length → joined a i j = joined b (m.getD i 0) (m.getD j 0) := by
  unfold isWay
  simp only [List.all_eq_true, List.mem_range, Bool.and_eq_true, beq_iff_eq]
  exact ⟨fun h => ⟨fun i hi => (h i hi).1, fun i j hi hj => (h i hi).2 j hj⟩, fun h i hi => ⟨h.1 i hi, fun j hj => h.2 i j hi hj⟩⟩
theorem isCopy_iff {p g : Graph} {m : Row} : isCopy p g m = true ↔ ∀ i j, i < p.length → j < p.length → joined p i j = true → joined g (m.getD i 0) (m.getD j 0) = true := by
  unfold isCopy
  simp only [List.all_eq_true, List.mem_range, Bool.or_eq_true, Bool.not_eq_true']
  constructor
  · intro h i j hi hj e
    rcases h i hi j hj with q | q
    · rw [q] at e; cases e
    · exact q
  · intro h i hi j hj
    cases e : joined p i j with
    | false => exact .inl rfl
    | true => exact .inr (h i j hi hj e)
theorem way_grown {a b : Graph} (ha : good a = true) (hb : good b = true) {x y m : Row} (hm : m ∈ rows b.length a.length) : isWay a b x y m = grown (stepX true a b x y) m := by
  obtain ⟨l, _, lt⟩ := rows_mem hm
  have mlt : ∀ i, i < a.length → m.getD i 0 < b.length := fun i hi => lt _ (mem_getD (by omega))
  apply Bool.eq_iff_iff.mpr
  rw [isWay_iff, grown_iff, l]
  refine and_congr Iff.rfl ?_
  constructor
  · intro h i j hi hj
    rw [h i j hi (by omega)]
    exact ⟨id, fun _ => id⟩
  · intro h i j hi hj
    have low : ∀ i j, i < a.length → j < i → joined a i j = joined b (m.getD i 0) (m.getD j 0) := fun i j hi hj => by
      obtain ⟨p, q⟩ := h i j hi hj
      cases e1 : joined a i j <;> cases e2 : joined b (m.getD i 0) (m.getD j 0)
      · rfl
      · rw [q rfl e2] at e1; cases e1
      · rw [p e1] at e2; cases e2
      · rfl
    rcases Nat.lt_trichotomy i j with q | q | q
    · rw [good_sym ha hi hj, good_sym hb (mlt i hi) (mlt j hj)]
      exact low j i hj q
    · subst q
      rw [good_no ha, good_no hb]
    · exact low i j hi q
theorem copy_grown {p g : Graph} (hp : good p = true) (hg : good g = true) {x y m : Row} (hm : m ∈ rows g.length p.length) (hxy : ∀ i j, i < p.length → x.getD i 0 = y.getD j 0) : isCopy p g m = grown (stepX false p g x y) m := by
  obtain ⟨l, _, lt⟩ := rows_mem hm
  have mlt : ∀ i, i < p.length → m.getD i 0 < g.length := fun i hi => lt _ (mem_getD (by omega))
  apply Bool.eq_iff_iff.mpr
  rw [isCopy_iff, grown_iff, l]
  constructor
  · intro h
    exact ⟨fun i hi => hxy i _ hi, fun i j hi hj => ⟨h i j hi (by omega), fun z => Bool.noConfusion z⟩⟩
  · rintro ⟨_, h⟩ i j hi hj e
    rcases Nat.lt_trichotomy i j with q | q | q
    · rw [good_sym hg (mlt i hi) (mlt j hj)]
      exact (h j i hj q).1 (by rw [good_sym hp hj hi]; exact e)
    · subst q
      rw [good_no hp] at e
      cases e
    · exact (h i j hi q).1 e
theorem symmetries_is {g : Graph} (hg : good g = true) (x : Row) : symmetries g x = (ways (stepX true g g x x) g.length g.length []).length := by
  unfold symmetries
  rw [← rows_ways]
  exact congrArg List.length (filter_congr' fun m hm => way_grown hg hg hm)
theorem copies_is {p g : Graph} (hp : good p = true) (hg : good g = true) {x y : Row} (hxy : ∀ i j, i < p.length → x.getD i 0 = y.getD j 0) : copies p g = (ways (stepX false p g x y) g.length p.length []).length := by
  unfold copies
  rw [← rows_ways]
  exact congrArg List.length (filter_congr' fun m hm => copy_grown hp hg hm hxy)
theorem wayOf_is {a b : Graph} (ha : good a = true) (hb : good b = true) (hl : a.length = b.length) (x y : Row) : wayOf a b x y = (ways (stepX true a b x y) b.length a.length []).head? := by
  unfold wayOf
  rw [if_pos hl, ← rows_ways, ← List.head?_filter]
  refine congrArg List.head? ?_
  rw [hl]
  exact filter_congr' fun m hm => way_grown ha hb (by rw [hl]; exact hm)
/-- the first of ways -/
theorem head_flat {α β : Type} {f : α → List β} : ∀ {l : List α}, (l.flatMap f).head? = l.findSome? fun x => (f x).head?
  | [] => rfl
  | a :: l => by
    rw [List.flatMap_cons, List.findSome?_cons]
    cases e : f a with
    | nil => rw [List.nil_append, head_flat]; rfl
    | cons b r => rfl
end Sg
namespace Sg
open Sf20
/-! ### plain: rows come in order -/
theorem first_app : ∀ {a b : Row} (u v : Row), first a b = true → first (a ++ u) (b ++ v) = true
  | [], [], _, _, h => by cases h
  | [], _ :: _, _, _, h => by cases h
  | _ :: _, [], _, _, h => by cases h
  | x :: a, y :: b, u, v, h => by
    have h' : (decide (x < y) || (x == y && first a b)) = true := h
    show (decide (x < y) || (x == y && first (a ++ u) (b ++ v))) = true
    rw [Bool.or_eq_true, Bool.and_eq_true] at h' ⊢
    rcases h' with q | ⟨q, r⟩
    · exact .inl q
    · exact .inr ⟨q, first_app u v r⟩
theorem first_same : ∀ (l : Row) {x y : Nat}, x < y → first (l ++ [x]) (l ++ [y]) = true
  | [], x, y, h => by
    show (decide (x < y) || (x == y && first [] [])) = true
    rw [decide_eq_true h]; rfl
  | a :: l, x, y, h => by
    show (decide (a < a) || (a == a && first (l ++ [x]) (l ++ [y]))) = true
    rw [first_same l h]; simp
theorem first_asym : ∀ {a b : Row}, first a b = true → first b a = false
  | [], [], h => by cases h
  | [], _ :: _, h => by cases h
  | _ :: _, [], h => by cases h
  | x :: a, y :: b, h => by
    have h' : (decide (x < y) || (x == y && first a b)) = true := h
    show (decide (y < x) || (y == x && first b a)) = false
    rw [Bool.or_eq_true, Bool.and_eq_true] at h'
    rcases h' with q | ⟨q, r⟩
    · have q' := of_decide_eq_true q
      rw [decide_eq_false (by omega)]
      have e : (y == x) = false := beq_eq_false_iff_ne.mpr (by omega)
      rw [e]; rfl
    · have q' := eq_of_beq q
      subst q'
      rw [first_asym r]; simp
theorem rows_order (n : Nat) : ∀ k, (rows n k).Pairwise fun a b => first a b = true
  | 0 => List.pairwise_singleton _ _
  | k + 1 => by
    show ((rows n k).flatMap fun l => ((List.range n).filter fun x => !l.contains x).map fun x => l ++ [x]).Pairwise _
    rw [List.pairwise_flatMap]
    refine ⟨fun l _ => ?_, ?_⟩
    · rw [List.pairwise_map]
      exact List.Pairwise.imp (fun h => first_same l h) (List.Pairwise.sublist List.filter_sublist List.pairwise_lt_range)
    · refine List.Pairwise.imp (fun {a b} h p hp q hq => ?_) (rows_order n k)
      obtain ⟨x, _, rfl⟩ := List.mem_map.mp hp
      obtain ⟨y, _, rfl⟩ := List.mem_map.mp hq
      exact first_app _ _ h
/-! ### plain: all orders -/
/-- the colour that is due at each place -/
def stepC (c sc : Row) (l : Row) (z : Nat) : Bool := c.getD z 0 == sc.getD l.length 0
def ordersAt (c sc : Row) (k : Nat) : List Row := (rows c.length k).filter (grown (stepC c sc))
theorem ordersAt_zero (c sc : Row) : ordersAt c sc 0 = [[]] := rfl
theorem ordersAt_succ (c sc : Row) (k : Nat) : ordersAt c sc (k + 1) = (ordersAt c sc k).flatMap fun l => ((List.range c.length).filter fun x => !l.contains x && (c.getD x 0 == sc.getD k 0)).map fun x => l ++ [x] := by
  unfold ordersAt
  rw [rows_step]
  refine flatMap_congr' fun l hl => ?_
  have e : l.length = k := (rows_mem (List.mem_filter.mp hl).1).1
  unfold nexts stepC
  rw [e]
theorem orders_le (c sc : Row) (k : Nat) : (ordersAt c sc k).length ≤ c.length ^ k := by
  unfold ordersAt
  rw [rows_ways]
  exact ways_le _ _ _ _
theorem orders_mem {c sc : Row} {k : Nat} {p : Row} (h : p ∈ ordersAt c sc k) : p.length = k ∧ ∀ x, x ∈ p → x < c.length := by
  obtain ⟨a, _, b⟩ := rows_mem (List.mem_filter.mp h).1
  exact ⟨a, b⟩
theorem all_in {n : Nat} {m : Row} (h1 : m.length = n) (h2 : m.Nodup) (h3 : ∀ x, x ∈ m → x < n) : m.Perm (List.range n) := by
  rw [List.perm_ext_iff_of_nodup h2 List.nodup_range]
  intro x
  refine ⟨fun h => List.mem_range.mpr (h3 x h), fun h => ?_⟩
  rcases Classical.em (x ∈ m) with q | q
  · exact q
  · have nd : (x :: m).Nodup := List.nodup_cons.mpr ⟨q, h2⟩
    have l := nd.length_le_of_subset (l₂ := List.range n) fun y hy => by
      rcases List.mem_cons.mp hy with z | z
      · rw [z]; exact h
      · exact List.mem_range.mpr (h3 y z)
    rw [List.length_cons, List.length_range] at l
    omega
theorem range_get (c : Row) : (List.range c.length).map (fun x => c.getD x 0) = c := by
  apply List.ext_getElem
  · simp
  · intro i h1 h2
    simp [h2]
theorem colours_perm {c m : Row} (hm : m ∈ rows c.length c.length) : (m.map fun x => c.getD x 0).Perm c := by
  obtain ⟨h1, h2, h3⟩ := rows_mem hm
  have q := (all_in h1 h2 h3).map (fun x => c.getD x 0)
  rw [range_get] at q
  exact q
theorem adj_iff (c : Row) : ∀ m : Row, ((m.zip (m.drop 1)).all fun (x : Nat × Nat) => decide (c.getD x.1 0 ≤ c.getD x.2 0)) = true ↔ (m.map fun x => c.getD x 0).Pairwise fun x y => x ≤ y
  | [] => by simp
  | [a] => by simp
  | a :: b :: r => by
    have ih := adj_iff c (b :: r)
    have e : ((a :: b :: r).zip ((a :: b :: r).drop 1)) = (a, b) :: ((b :: r).zip ((b :: r).drop 1)) := rfl
    rw [e, List.all_cons, Bool.and_eq_true, ih, List.map_cons (l := b :: r), List.pairwise_cons]
    constructor
    · rintro ⟨h1, h2⟩
      refine ⟨fun y hy => ?_, h2⟩
      have h1' : c.getD a 0 ≤ c.getD b 0 := of_decide_eq_true h1
      rw [List.map_cons, List.pairwise_cons] at h2
      rcases List.mem_cons.mp hy with z | z
      · rw [z]; exact h1'
      · exact Nat.le_trans h1' (h2.1 y z)
    · rintro ⟨h1, h2⟩
      exact ⟨decide_eq_true (h1 _ (List.mem_cons_self ..)), h2⟩
theorem grownC_iff {c sc m : Row} (hl : m.length = sc.length) : grown (stepC c sc) m = true ↔ (m.map fun x => c.getD x 0) = sc := by
  unfold grown
  rw [List.all_eq_true]
  constructor
  · intro h
    apply List.ext_getElem
    · rw [List.length_map, hl]
    · intro i h1 h2
      rw [List.length_map] at h1
      have q := h i (List.mem_range.mpr h1)
      unfold stepC at q
      have l : (m.take i).length = i := by rw [List.length_take]; omega
      rw [l] at q
      have q' := eq_of_beq q
      rw [List.getElem_map]
      have e1 : m.getD i 0 = m[i] := by simp [h1]
      have e2 : sc.getD i 0 = sc[i] := by simp [h2]
      rw [e1, e2] at q'
      exact q'
  · intro h i hi
    have hi' := List.mem_range.mp hi
    unfold stepC
    have l : (m.take i).length = i := by rw [List.length_take]; omega
    rw [l, ← h, beq_iff_eq]
    have e1 : m.getD i 0 = m[i] := by simp [hi']
    rw [e1]
    simp [hi']
theorem orders_is {g : Graph} {c sc : Row} (hg : c.length = g.length) (hp : sc.Perm c) (hs : sc.Pairwise fun x y => x ≤ y) : orders g c = ordersAt c sc c.length := by
  unfold orders ordersAt
  rw [← hg]
  refine filter_congr' fun m hm => ?_
  apply Bool.eq_iff_iff.mpr
  have hl := (rows_mem hm).1
  have hpm := colours_perm hm
  rw [adj_iff c m, grownC_iff (by rw [hl, hp.length_eq])]
  constructor
  · intro h
    exact (hpm.trans hp.symm).eq_of_pairwise (fun a b _ _ h1 h2 => Nat.le_antisymm h1 h2) h hs
  · intro h
    rw [h]; exact hs
/-! ### plain: the best order -/
/-- one order more, as least_form takes it -/
def turn (g : Graph) (s : Graph × Row) (p : Row) : Graph × Row := if s.1 = [] ∨ first (laid g p) s.1 = true then (laid g p, p) else s
def form (g : Graph) (L : List Row) : Graph × Row := L.foldl (turn g) ([], [])
theorem form_more {g : Graph} {L : List Row} {i : Nat} {p : Row} (h : L[i]? = some p) : form g (L.take (i + 1)) = turn g (form g (L.take i)) p := by
  unfold form
  rw [take_more h, List.foldl_append]
  rfl
def turnO (g : Graph) (m : Option (Graph × Row)) (p : Row) : Option (Graph × Row) :=
  let r := laid g p
  match m with
  | none => some (r, p)
  | some b => if first r b.1 = true ∨ (r = b.1 ∧ first p b.2 = true) then some (r, p) else some b
theorem laid_len (g : Graph) (p : Row) : (laid g p).length = p.length := List.length_map _
theorem fold_same {g : Graph} : ∀ (L : List Row) (b : Graph × Row), b.1 ≠ [] → (∀ p, p ∈ L → p ≠ []) → (∀ p, p ∈ L → first b.2 p = true) → L.Pairwise (fun a b => first a b = true) → L.foldl (turnO g) (some b) = some (L.foldl (turn g) b)
  | [], _, _, _, _, _ => rfl
  | p :: L, b, hb, hn, hf, hp => by
    rw [List.foldl_cons, List.foldl_cons]
    obtain ⟨hp1, hp2⟩ := List.pairwise_cons.mp hp
    have f0 : first p b.2 = false := first_asym (hf p (List.mem_cons_self ..))
    by_cases e : first (laid g p) b.1 = true
    · have e1 : turnO g (some b) p = some (laid g p, p) := if_pos (.inl e)
      have e2 : turn g b p = (laid g p, p) := if_pos (.inr e)
      rw [e1, e2]
      refine fold_same L _ (fun z => ?_) (fun q hq => hn q (List.mem_cons_of_mem _ hq)) hp1 hp2
      have z' : laid g p = [] := z
      have l := laid_len g p
      rw [z'] at l
      exact hn p (List.mem_cons_self ..) (List.eq_nil_of_length_eq_zero l.symm)
    · have e1 : turnO g (some b) p = some b := if_neg (fun z => by
        rcases z with z | ⟨_, z⟩
        · exact e z
        · rw [f0] at z; cases z)
      have e2 : turn g b p = b := if_neg (fun z => by
        rcases z with z | z
        · exact hb z
        · exact e z)
      rw [e1, e2]
      exact fold_same L b hb (fun q hq => hn q (List.mem_cons_of_mem _ hq)) (fun q hq => hf q (List.mem_cons_of_mem _ hq)) hp2
theorem formOf_is {g : Graph} {c : Row} (h1 : 1 ≤ g.length) : formOf g c = form g (orders g c) := by
  have hord : (orders g c).Pairwise fun a b => first a b = true := List.Pairwise.sublist List.filter_sublist (rows_order _ _)
  have hne : ∀ p, p ∈ orders g c → p ≠ [] := fun p hp z => by
    have l := (rows_mem (List.mem_filter.mp hp).1).1
    rw [z] at l
    have l' : 0 = g.length := l
    omega
  show ((orders g c).foldl (turnO g) none).getD ([], []) = form g (orders g c)
  generalize orders g c = L at hord hne
  cases L with
  | nil => rfl
  | cons p L =>
    obtain ⟨a, b⟩ := List.pairwise_cons.mp hord
    unfold form
    rw [List.foldl_cons, List.foldl_cons]
    have e1 : turnO g none p = some (laid g p, p) := rfl
    have e2 : turn g ([], []) p = (laid g p, p) := if_pos (.inl rfl)
    rw [e1, e2, fold_same L (laid g p, p) (fun z => ?_) (fun q hq => hne q (List.mem_cons_of_mem _ hq)) a b]
    · rfl
    · have z' : laid g p = [] := z
      have l := laid_len g p
      rw [z'] at l
      exact hne p (List.mem_cons_self ..) (List.eq_nil_of_length_eq_zero l.symm)
/-- what is held is of one length -/
theorem form_len {g : Graph} {n : Nat} : ∀ (L : List Row), (∀ p, p ∈ L → p.length = n) → ((form g L).1 = [] ∧ (form g L).2 = []) ∨ ((form g L).1.length = n ∧ (form g L).2.length = n) := by
  intro L
  unfold form
  have gen : ∀ (L : List Row) (b : Graph × Row), (∀ p, p ∈ L → p.length = n) → ((b.1 = [] ∧ b.2 = []) ∨ (b.1.length = n ∧ b.2.length = n)) → ((L.foldl (turn g) b).1 = [] ∧ (L.foldl (turn g) b).2 = []) ∨ ((L.foldl (turn g) b).1.length = n ∧ (L.foldl (turn g) b).2.length = n) := by
    intro L
    induction L with
    | nil => exact fun b _ h => h
    | cons p L ih =>
      intro b hL h
      rw [List.foldl_cons]
      refine ih _ (fun q hq => hL q (List.mem_cons_of_mem _ hq)) ?_
      unfold turn
      by_cases e : b.1 = [] ∨ first (laid g p) b.1 = true
      · rw [if_pos e]
        right
        exact ⟨by rw [laid_len]; exact hL p (List.mem_cons_self ..), hL p (List.mem_cons_self ..)⟩
      · rw [if_neg e]
        exact h
  exact fun h => gen L _ h (.inl ⟨rfl, rfl⟩)
/-! ### plain: a row of the graph that is laid -/
def laidTo (g : Graph) (p : Row) (x k : Nat) : Nat := (List.range k).foldl (fun m j => if joined g x (p.getD j 0) then m + 2 ^ j else m) 0
theorem laidTo_succ (g : Graph) (p : Row) (x k : Nat) : laidTo g p x (k + 1) = if joined g x (p.getD k 0) then laidTo g p x k + 2 ^ k else laidTo g p x k := by
  unfold laidTo
  rw [List.range_succ, List.foldl_append]
  rfl
theorem laidTo_lt (g : Graph) (p : Row) (x : Nat) : ∀ k, laidTo g p x k < 2 ^ k
  | 0 => Nat.one_pos
  | k + 1 => by
    have ih := laidTo_lt g p x k
    rw [laidTo_succ, Nat.pow_succ]
    split <;> omega
theorem laidTo_or (g : Graph) (p : Row) (x k : Nat) : laidTo g p x k ||| (joined g x (p.getD k 0)).toNat * 2 ^ k = laidTo g p x (k + 1) := by
  rw [laidTo_succ]
  have lt := laidTo_lt g p x k
  cases e : joined g x (p.getD k 0) with
  | false =>
    rw [if_neg Bool.false_ne_true]
    show _ ||| 0 * 2 ^ k = _
    rw [Nat.zero_mul, Nat.or_zero]
  | true =>
    rw [if_pos rfl]
    show _ ||| 1 * 2 ^ k = _
    have z := Nat.two_pow_add_eq_or_of_lt lt 1
    rw [Nat.mul_one] at z
    rw [Nat.one_mul, Nat.or_comm, ← z, Nat.add_comm]
theorem laid_eq (g : Graph) (p : Row) : laid g p = p.map fun x => laidTo g p x p.length := rfl
end Sg
/-! ### the walk: words -/
namespace Sg
open PySem PySem.Spec PyProof.Rows L2
def vn (x : Nat) : V := .int (x : Int)
def vs (l : List Nat) : List V := l.map vn
theorem same_upd {H : Hp} {p : Addr} {o : HO} (h : H p = none) : Same H (upd H p o) := fun b x e => by
  rw [upd_ne (ne_of_none e h)]
  exact e
theorem vs_at {l : List Nat} {i : Nat} (h : i < l.length) : atI (vs l) (i : Int) = some (vn (l.getD i 0)) := by
  refine atI_nat ?_
  unfold vs
  rw [List.getElem?_map, List.getElem?_eq_getElem h]
  have e : l.getD i 0 = l[i] := by simp [h]
  rw [e]; rfl
theorem vs_get {l : List Nat} {i : Nat} {x : V} (h : (vs l)[i]? = some x) : ∃ z, l[i]? = some z ∧ x = vn z := by
  unfold vs at h
  rw [List.getElem?_map] at h
  cases e : l[i]? with
  | none => rw [e] at h; cases h
  | some z =>
    rw [e] at h
    exact ⟨z, rfl, (Option.some.inj h).symm⟩
theorem vs_len (l : List Nat) : (vs l).length = l.length := List.length_map _
theorem vs_snoc (l : List Nat) (x : Nat) : vs (l ++ [x]) = vs l ++ [vn x] := by
  unfold vs
  rw [List.map_append]; rfl
theorem vs_flat (l : List Nat) : (vs l).all flatV = true := by
  rw [List.all_eq_true]
  intro x hx
  obtain ⟨z, _, rfl⟩ := List.mem_map.mp hx
  rfl
theorem getD_of {l : List Nat} {i z : Nat} (h : l[i]? = some z) : l.getD i 0 = z := by simp [List.getD, h]
theorem lt_of_get {α : Type} {l : List α} {i : Nat} {z : α} (h : l[i]? = some z) : i < l.length := by
  rcases Nat.lt_or_ge i l.length with q | q
  · exact q
  · rw [List.getElem?_eq_none q] at h; cases h
theorem vn_eq (a b : Nat) : decide (vn a = vn b) = (a == b) := by
  by_cases e : a = b
  · subst e; simp
  · have h : ¬ vn a = vn b := fun q => e (by injection q with q; exact Int.ofNat.inj q)
    rw [decide_eq_false h]
    exact (beq_eq_false_iff_ne.mpr e).symm
theorem small {n : Nat} (h : n ≤ 16000000) : n < sizeLine := Nat.lt_of_le_of_lt h (by decide)
theorem bang_t {b : Bool} (h : (!b) = true) : b = false := by
  cases b with
  | false => rfl
  | true => cases h
theorem bang_f {b : Bool} (h : ¬ (!b) = true) : b = true := by
  cases b with
  | false => exact absurd rfl h
  | true => rfl
/-! ### the text -/
def top (i : Nat) : Stmt := PySem.Challenge.pw_smallgraphs_s01_form.main.body.getD i (.Pass ⟨0, 0, 0, 0⟩)
abbrev sAre : Stmt := top 2
abbrev sIsg : Stmt := top 3
def spAre (K : PySem.W.Frag) : Sp := fun xs H Q _ => ∃ (a : Addr) (g : List Nat) (i j : Nat), xs = [.ref a, vn i, vn j] ∧ SqL K H a (vs g) ∧ i < g.length ∧ Q (.bl (Sf20.joined g i j)) H
def spIsg (K : PySem.W.Frag) : Sp := fun xs H Q _ => ∃ (a : Addr) (g : List Nat) (n : Int), xs = [.int n, .ref a] ∧ SqL K H a (vs g) ∧ (1 ≤ n → n ≤ 16 → (g.length : Int) = n) ∧ Q (.bl (Sf20.count n && Sf20.good g)) H
theorem scAre : FnScope ["rows", "i", "j"] ["rows", "i", "j"] (defScope sAre) := ⟨rfl, rfl, rfl, by decide +kernel, rfl, by decide +kernel, by decide +kernel⟩
theorem scIsg : FnScope ["n", "rows", "i", "j"] ["n", "rows"] (defScope sIsg) := ⟨rfl, rfl, rfl, by decide +kernel, rfl, by decide +kernel, by decide +kernel⟩
section
variable {P : Program} {w : World} {K : PySem.W.Frag} {mg : Str → Option Value} {base : Heap}
theorem ok_are {f : Addr} {fd : FuncData} (F : Fun K "are_joined" "are_joined" sAre f fd) : FnOk P w K mg base CX0 1 f fd ["rows", "i", "j"] (spAre K) := by
  refine F.ok scAre (fun xs H Q E h => ?_) (fun cdv A outer s H xs Q E hr h => ?_)
  · obtain ⟨a, g, i, j, rfl, _⟩ := h
    rfl
  obtain ⟨a, g, i, j, rfl, hS, hi, q⟩ := h
  refine ⟨_, pss_one (ps_ret (pe_cmpR op_eq (pe_op op_odd (pe_op op_shrN (pe_ix ix_list (pv 0) (pv 1) (fun _ _ => rfl)) (pv 2)) pe_int) pe_int (nomark _))), ?_⟩
  refine ⟨_, rfl, _, rfl, a, _, _, _, rfl, rfl, hS, vs_at hi, _, rfl, _, j, rfl, rfl, g.getD i 0 / 2 ^ j, ?_, rfl, rfl, ?_⟩
  · rw [Int.natCast_ediv, Int.natCast_pow]; rfl
  · have e : decide (V.int ((g.getD i 0 / 2 ^ j % 2 : Nat) : Int) = V.int 1) = Sf20.joined g i j := by
      have z := vn_eq (g.getD i 0 / 2 ^ j % 2) 1
      unfold Sf20.joined
      rw [Nat.testBit_eq_decide_div_mod_eq]
      exact z.trans (by rw [Bool.eq_iff_iff]; simp)
    show Q (.bl (decide (V.int ((g.getD i 0 / 2 ^ j % 2 : Nat) : Int) = V.int 1))) H
    rw [e]
    exact q
theorem ok_isg {f fA : Addr} {fd fdA : FuncData} {k : Nat} {t16 : Tok} (F : Fun K "is_graph" "is_graph" sIsg f fd) (FA : Fun K "are_joined" "are_joined" sAre fA fdA) (bA : Binds K fdA ["rows", "i", "j"] []) (mA : mg "are_joined" = some (.ref fA))
    (mN : mg "NODES_AT_MOST" = some (.int 16 t16)) (mr : mg "range" = none) : FnOk P w K mg base CX0 (k + 2) f fd ["n", "rows"] (spIsg K) := by
  have GA : FnOk P w K mg base CX0 (k + 1) fA fdA ["rows", "i", "j"] (spAre K) := (ok_are FA).mono (by omega)
  refine F.ok scIsg (fun xs H Q E h => ?_) (fun cdv A outer s H xs Q E hr h => ?_)
  · obtain ⟨a, g, n, rfl, _⟩ := h
    rfl
  obtain ⟨a, g, n, rfl, hS, hn, q⟩ := h
  refine ⟨_, pss_cons (ps_if (PW.pt (pw_or (pt_cmpR op_lt (pv 0) pe_int (nomark _)) (pw_or1 (pt_cmpR op_gt (pv 0) (pe_glob (v := .int 16) rfl mN ⟨_, rfl⟩) (nomark _))))) (pss_one (ps_ret pe_bl)) pss_nil)
    (pss_cons (ps_for PassesOwn.never rfl (pi_range1 rfl mr (pa_cons (pv 0) pa_nil)) (pg_name (i := 2) scIsg.nd rfl (.inl rfl))
      (pss_cons (ps_if (PW.pt (pw_or (pt_cmpR op_ge (pe_ix ix_list (pv 1) (pv 2) (fun _ _ => rfl)) (pe_op op_oneShl pe_int (pv 0)) (nomark _))
          (pw_or1 (pt_val (pe_call GA hr rfl mA FA.kp bA .nil pass0 (pa_cons (pv 1) (pa_cons (pv 2) (pa_cons (pv 2) pa_nil)))))))) (pss_one (ps_ret pe_bl)) pss_nil)
        (pss_one (ps_for PassesOwn.never rfl (pi_range1 rfl mr (pa_cons (pv 0) pa_nil)) (pg_name (i := 3) scIsg.nd rfl (.inl rfl))
          (pss_one (ps_if (pt_cmpR op_ne (pe_call GA hr rfl mA FA.kp bA .nil pass0 (pa_cons (pv 1) (pa_cons (pv 2) (pa_cons (pv 3) pa_nil))))
            (pe_call GA hr rfl mA FA.kp bA .nil pass0 (pa_cons (pv 1) (pa_cons (pv 3) (pa_cons (pv 2) pa_nil)))) (nomark _)) (pss_one (ps_ret pe_bl)) pss_nil))))))
    (pss_one (ps_ret pe_bl))), ?_⟩
  -- n < 1 or n > 16
  refine ⟨_, rfl, _, _, rfl, rfl, _, rfl, ite2 (fun c => ?_) (fun c => ?_)⟩
  · refine iteT ?_
    have c' : n < 1 := of_decide_eq_true c
    have e : Sf20.count n = false := by
      unfold Sf20.count
      rw [decide_eq_false (by omega : ¬ 1 ≤ n), Bool.false_and]
    rw [e, Bool.false_and] at q
    exact q
  have c1 : ¬ n < 1 := fun z => c (decide_eq_true z)
  refine ⟨_, rfl, _, _, rfl, rfl, _, rfl, ite2 (fun c => ?_) (fun c => ?_)⟩
  · have c' : 16 < n := of_decide_eq_true c
    have e : Sf20.count n = false := by
      unfold Sf20.count
      rw [decide_eq_false (by show ¬ n ≤ ((16 : Nat) : Int); omega : ¬ n ≤ (Sf20.MOST : Int)), Bool.and_false]
    rw [e, Bool.false_and] at q
    exact q
  have c2 : ¬ 16 < n := fun z => c (decide_eq_true z)
  obtain ⟨m, rfl⟩ : ∃ m : Nat, n = (m : Int) := ⟨n.toNat, by omega⟩
  have hl : g.length = m := by have := hn (by omega) (by omega); omega
  have ec : Sf20.count (m : Int) = true := by
    unfold Sf20.count
    rw [decide_eq_true (by omega : 1 ≤ (m : Int)), decide_eq_true (by show (m : Int) ≤ ((16 : Nat) : Int); omega : (m : Int) ≤ (Sf20.MOST : Int))]; rfl
  rw [ec, Bool.true_and] at q
  have bad : Sf20.good g = false → Q (.bl false) H := fun e => by rw [e] at q; exact q
  -- for i in range(n)
  refine ⟨_, rfl, (m : Int), rfl, by omega, by omega, for_range (lo := 0) (n := (m : Int).toNat) (fun i σ H' => ∃ v2 v3 : Option V, σ = [some (.int (m : Int)), some (.ref a), v2, v3] ∧ H' = H ∧
    ∀ i', i' < i → g.getD i' 0 < 2 ^ m ∧ Sf20.joined g i' i' = false ∧ ∀ j, j < m → Sf20.joined g i' j = Sf20.joined g j i') ⟨none, none, rfl, rfl, fun i' h => absurd h (Nat.not_lt_zero _)⟩ ?_ ?_⟩
  · rintro i σ H' hi ⟨v2, v3, rfl, rfl, inv⟩
    have hi' : i < m := by omega
    have hig : i < g.length := by omega
    have ei : (V.int (0 + (i : Int))) = vn i := by unfold vn; rw [Int.zero_add]
    rw [ei]
    refine ⟨_, rfl, _, rfl, a, _, _, _, rfl, rfl, hS, vs_at hig, _, rfl, m, rfl, rfl, by omega, _, _, rfl, rfl, _, rfl, ite2 (fun c => ?_) (fun c => ?_)⟩
    · refine iteT (bad (Bool.eq_false_iff.mpr fun z => ?_))
      have c' := of_decide_eq_true c
      have lt := ((good_iff g).mp z).2.1 i hig
      rw [hl] at lt
      have lt' : ((g.getD i 0 : Nat) : Int) < 2 ^ m := by exact_mod_cast lt
      omega
    have c3 : g.getD i 0 < 2 ^ m := by
      have c' : ¬ ((2 : Int) ^ m ≤ ((g.getD i 0 : Nat) : Int)) := fun z => c (decide_eq_true z)
      have c'' : ((g.getD i 0 : Nat) : Int) < 2 ^ m := by omega
      exact_mod_cast c''
    refine ⟨_, rfl, _, rfl, _, rfl, a, g, i, i, rfl, hS, hig, _, rfl, ite2 (fun c => ?_) (fun c => ?_)⟩
    · exact bad (Bool.eq_false_iff.mpr fun z => by rw [((good_iff g).mp z).2.2.1 i hig] at c; cases c)
    have c4 : Sf20.joined g i i = false := Bool.eq_false_iff.mpr c
    -- for j in range(n)
    refine ⟨_, rfl, (m : Int), rfl, by omega, by omega, for_range (lo := 0) (n := (m : Int).toNat) (fun j σ H'' => ∃ v3 : Option V, σ = [some (.int (m : Int)), some (.ref a), some (vn i), v3] ∧ H'' = H' ∧
      ∀ j', j' < j → Sf20.joined g i j' = Sf20.joined g j' i) ⟨v3, rfl, rfl, fun j' h => absurd h (Nat.not_lt_zero _)⟩ ?_ ?_⟩
    · rintro j σ H'' hj ⟨v3, rfl, rfl, inv2⟩
      have hj' : j < m := by omega
      have hjg : j < g.length := by omega
      have ej : (V.int (0 + (j : Int))) = vn j := by unfold vn; rw [Int.zero_add]
      rw [ej]
      refine ⟨_, rfl, _, rfl, _, rfl, a, g, i, j, rfl, hS, hig, _, rfl, _, rfl, _, rfl, a, g, j, i, rfl, hS, hjg, rfl, _, rfl, ?_⟩
      have e : (!decide (V.bl (Sf20.joined g i j) = V.bl (Sf20.joined g j i))) = !(Sf20.joined g i j == Sf20.joined g j i) := by
        cases Sf20.joined g i j <;> cases Sf20.joined g j i <;> rfl
      refine ite2 (fun c => ?_) (fun c => ?_)
      · rw [e] at c
        exact bad (Bool.eq_false_iff.mpr fun z => by rw [good_sym z hig hjg] at c; simp at c)
      · rw [e] at c
        have c5 : Sf20.joined g i j = Sf20.joined g j i := by simpa using c
        refine ⟨_, rfl, rfl, fun j' h => ?_⟩
        rcases Nat.lt_or_ge j' j with z | z
        · exact inv2 j' z
        · have z' : j' = j := by omega
          subst z'
          exact c5
    · rintro σ H'' ⟨v3, rfl, rfl, inv2⟩
      refine ⟨_, _, rfl, rfl, fun i' h => ?_⟩
      rcases Nat.lt_or_ge i' i with z | z
      · exact inv i' z
      · have z' : i' = i := by omega
        subst z'
        exact ⟨c3, c4, fun j h => inv2 j (by omega)⟩
  · rintro σ H' ⟨v2, v3, rfl, rfl, inv⟩
    have e : Sf20.good g = true := (good_iff g).mpr ⟨by omega, fun i hi => by rw [hl]; exact (inv i (by omega)).1, fun i hi => (inv i (by omega)).2.1, fun i j hi hj => (inv i (by omega)).2.2 j (by omega)⟩
    rw [e] at q
    exact q
end
end Sg
/-! ### for i, x in enumerate(xs) -/
namespace Sg
open PySem PySem.Spec PyProof.Rows L2
theorem for_enum {K : PySem.W.Frag} {a : Addr} {xs : List V} {g : TG} {tb : TS} {D : Ends} {σ : L2.St} {H : Hp} (Pv : Nat → L2.St → Hp → Prop) (h0 : Pv 0 σ H) (hl : ∀ i σ H, i ≤ xs.length → Pv i σ H → SqL K H a xs)
    (hs : ∀ i x T σ H, xs[i]? = some x → Pv i σ H → H T = none → g (.ref T) σ (upd H T (.tup [vn i, x])) fun σ2 H2 => tb { D with nx := Pv (i + 1), ct := Pv (i + 1), bk := D.nx } σ2 H2) (hd : ∀ σ H, Pv xs.length σ H → D.nx σ H) :
    ∃ W : Nat → Nat → L2.St → Hp → Prop, (∃ m, W 0 m σ H) ∧ ∀ i m σ H, W i m σ H →
      ((Ite K a).stop i H ∧ D.nx σ H) ∨ ((Ite K a).go i H ∧ ∃ N : L2.St → Hp → Prop, (∀ σ' H', N σ' H' → ∃ m', m' < m ∧ W (i + 1) m' σ' H') ∧ ∀ x H', (Ite K a).yld i H x H' → g x σ H' fun σ2 H2 => tb { D with nx := N, ct := N, bk := D.nx } σ2 H2) := by
  refine ⟨fun i m σ H => m = xs.length - i ∧ i ≤ xs.length ∧ Pv i σ H, ⟨xs.length, by simp, Nat.zero_le _, h0⟩, ?_⟩
  rintro i m σ H ⟨rfl, hi, p⟩
  have q := hl i σ H hi p
  by_cases hlt : i < xs.length
  · have hx : xs[i]? = some xs[i] := by simp [hlt]
    refine .inr ⟨⟨xs, xs[i], q, hx⟩, Pv (i + 1), fun σ' H' p' => ⟨xs.length - (i + 1), by omega, rfl, hlt, p'⟩, fun v H' y => ?_⟩
    obtain ⟨T, x, rfl, nT, rfl, hy⟩ := y
    exact hs i x T σ H (hy xs q) p nT
  · have e : i = xs.length := by omega
    subst e
    exact .inl ⟨⟨xs, q, Nat.le_refl _⟩, hd σ H p⟩
end Sg
/-! ### the request and the answer -/
namespace Sg
open PySem PySem.Spec PyProof.Rows L2
def ans (y : Sf20.Ans) : List Int := y.v :: y.l.map fun (x : Nat) => (x : Int)
theorem ans_vs (n : Nat) (l : List Nat) : (ans ⟨(n : Int), l⟩).map V.int = vs (n :: l) := by
  unfold ans vs
  rw [List.map_cons, List.map_map, List.map_cons]; rfl
theorem row_nat {l : List Int} {n top : Int} (h : Sf20Neutral.row l n top = true) : l.map V.int = vs (Sf20Neutral.nats l) ∧ (1 ≤ n → n ≤ 16 → ((Sf20Neutral.nats l).length : Int) = n) := by
  unfold Sf20Neutral.row at h
  rw [Bool.and_eq_true, List.all_eq_true] at h
  obtain ⟨h1, h2⟩ := h
  constructor
  · unfold vs Sf20Neutral.nats
    rw [List.map_map]
    refine List.map_congr_left fun x hx => ?_
    have q := h1 x hx
    unfold Sf20Neutral.within at q
    rw [Bool.and_eq_true] at q
    have q' := of_decide_eq_true q.1
    show V.int x = vn x.toNat
    unfold vn
    rw [Int.toNat_of_nonneg q']
  · intro a b
    have h2' := of_decide_eq_true h2
    rw [if_pos ⟨a, b⟩] at h2'
    unfold Sf20Neutral.nats
    rw [List.length_map]
    exact h2'
end Sg
/-! ### a < b, lists of numbers of one length -/
namespace Sg
open PySem PySem.Spec PyProof.Rows L2
def toI (l : List Nat) : List Int := l.map fun (x : Nat) => (x : Int)
theorem vs_toI (l : List Nat) : vs l = (toI l).map V.int := by
  unfold vs toI
  rw [List.map_map]; rfl
theorem toI_len (l : List Nat) : (toI l).length = l.length := List.length_map _
theorem toI_at {l : List Nat} {j : Nat} : (toI l).getD j 0 = ((l.getD j 0 : Nat) : Int) := by
  unfold toI
  rw [List.getD_eq_getElem?_getD, List.getD_eq_getElem?_getD, List.getElem?_map]
  cases l[j]? <;> rfl
theorem firstLt_is {ns ms : List Nat} (hl : ns.length = ms.length) : ∀ (d i : Nat), i + d = ns.length →
    SeqAt.firstLt (fun j => decide ((toI ns).getD j 0 = (toI ms).getD j 0)) (fun j => decide ((toI ns).getD j 0 < (toI ms).getD j 0)) false ((List.range ns.length).drop i) = Sf20.first (ns.drop i) (ms.drop i)
  | 0, i, h => by
    have e : i = ns.length := by omega
    rw [List.drop_eq_nil_of_le (by rw [List.length_range]; omega), List.drop_eq_nil_of_le (by omega : ns.length ≤ i)]
    rfl
  | d + 1, i, h => by
    have hi : i < ns.length := by omega
    have hi2 : i < ms.length := by omega
    have er : (List.range ns.length).drop i = i :: (List.range ns.length).drop (i + 1) := by
      rw [List.drop_eq_getElem_cons (by rw [List.length_range]; exact hi), List.getElem_range]
    rw [er, List.drop_eq_getElem_cons hi, List.drop_eq_getElem_cons hi2]
    have a1 : (toI ns).getD i 0 = (ns[i] : Int) := by rw [toI_at]; simp [hi]
    have a2 : (toI ms).getD i 0 = (ms[i] : Int) := by rw [toI_at]; simp [hi2]
    have ih := firstLt_is hl d (i + 1) (by omega)
    show _ = (decide (ns[i] < ms[i]) || (ns[i] == ms[i] && Sf20.first (ns.drop (i + 1)) (ms.drop (i + 1))))
    by_cases c : ns[i] = ms[i]
    · rw [SeqAt.firstLt_yes (by show decide _ = true; rw [a1, a2]; exact decide_eq_true (by omega)), ih]
      rw [decide_eq_false (by omega : ¬ ns[i] < ms[i]), beq_iff_eq.mpr c]
      rfl
    · rw [SeqAt.firstLt_no (by show decide _ = false; rw [a1, a2]; exact decide_eq_false (by omega)), beq_eq_false_iff_ne.mpr c]
      show decide _ = _
      rw [a1, a2, Bool.false_and, Bool.or_false]
      exact decide_eq_decide.mpr (by omega)
def rLtL (K : PySem.W.Frag) : R2 := fun x y H Q => ∃ (a b : Addr) (ns ms : List Nat), x = .ref a ∧ y = .ref b ∧ SqL K H a (vs ns) ∧ SqL K H b (vs ms) ∧ ns.length = ms.length ∧ Q (.bl (Sf20.first ns ms)) H
theorem op_ltL {X : Cx} (hu : X.A.units < cLine) : OpR X (compareOp .Lt) (rLtL X.K) := by
  intro pins s σ H x y v u Q I rx ry h
  obtain ⟨a, b, ns, ms, rfl, rfl, ha, hb, hl, q⟩ := h
  cases rx
  cases ry
  rw [vs_toI] at ha hb
  obtain ⟨its, r1, p1, _⟩ := I.list ha
  obtain ⟨its2, r2, p2, _⟩ := I.list hb
  have i1 : IntsAre its (toI ns) := Vals.ints r1
  have i2 : IntsAre its2 (toI ms) := Vals.ints r2
  have e1 : its.toArray.size = ns.length := by rw [List.size_toArray, ← toI_len]; exact i1.length
  have e2 : its2.toArray.size = ms.length := by rw [List.size_toArray, ← toI_len]; exact i2.length
  have at1 : ∀ j (h1 : j < its.toArray.size), ∃ t, its.toArray[j] = .int ((toI ns).getD j 0) t := fun j h1 => PyProof.Rows.IntsAre.int_at i1 _ _ (by simp at h1; simp [h1])
  have at2 : ∀ j (h1 : j < its2.toArray.size), ∃ t, its2.toArray[j] = .int ((toI ms).getD j 0) t := fun j h1 => PyProof.Rows.IntsAre.int_at i2 _ _ (by simp at h1; simp [h1])
  have R := SeqAt.RcLt.lists (A := X.A) (s := s) (e := fun j => decide ((toI ns).getD j 0 = (toI ms).getD j 0)) (r := fun j => decide ((toI ns).getD j 0 < (toI ms).getD j 0)) p1.isList p2.isList hu (fun j h1 h2 => by
    obtain ⟨t, et⟩ := at1 j h1
    obtain ⟨t', et'⟩ := at2 j h2
    rw [et, et']
    have z : ((toI ns).getD j 0 == (toI ms).getD j 0) = decide ((toI ns).getD j 0 = (toI ms).getD j 0) := by
      by_cases q : (toI ns).getD j 0 = (toI ms).getD j 0
      · rw [decide_eq_true q]; exact beq_iff_eq.mpr q
      · rw [decide_eq_false q]; exact beq_eq_false_iff_ne.mpr q
    rw [← z]
    exact SeqAt.EqAt.int_int _ _ _ _) (fun j h1 h2 _ => by
    obtain ⟨t, et⟩ := at1 j h1
    obtain ⟨t', et'⟩ := at2 j h2
    rw [et, et']
    exact HT.rcLt_int _ _ _ _ _ _)
  rw [e1, e2, ← hl, Nat.min_self, decide_eq_false (Nat.lt_irrefl _)] at R
  have f := firstLt_is hl ns.length 0 (by omega)
  rw [List.drop_zero, List.drop_zero, List.drop_zero] at f
  rw [f] at R
  have z : wpAny (model X.prog X.w) X.A (compareOp .Lt (.ref a) (.ref b)) (EP X pins σ Q) X.xe s := R X.prog X.w X.xe (EP X pins σ Q) ⟨.bl _, H, I, rfl, q⟩
  exact z
end Sg
/-! ### the walk: the least form -/
namespace Sg
open PySem PySem.Spec PyProof.Rows L2
abbrev sLaid : Stmt := top 4
abbrev sAll : Stmt := top 5
abbrev sLeast : Stmt := top 6
abbrev sMain : Stmt := top 9
/-- lists of numbers at addresses -/
def Holds (H : Hp) : List Addr → List (List Nat) → Prop
  | [], [] => True
  | r :: rs, l :: L => H r = some (.lst (vs l)) ∧ Holds H rs L
  | _, _ => False
theorem Holds.len {H : Hp} : ∀ {rs : List Addr} {L : List (List Nat)}, Holds H rs L → rs.length = L.length
  | [], [], _ => rfl
  | _ :: _, _ :: _, h => by rw [List.length_cons, List.length_cons, Holds.len h.2]
  | [], _ :: _, h => h.elim
  | _ :: _, [], h => h.elim
theorem Holds.mono {H H' : Hp} : ∀ {rs : List Addr} {L : List (List Nat)}, (∀ r, r ∈ rs → ∀ o, H r = some o → H' r = some o) → Holds H rs L → Holds H' rs L
  | [], [], _, _ => trivial
  | r :: rs, l :: L, s, h => ⟨s r (List.mem_cons_self ..) _ h.1, Holds.mono (fun r hr => s r (List.mem_cons_of_mem _ hr)) h.2⟩
  | [], _ :: _, _, h => h.elim
  | _ :: _, [], _, h => h.elim
theorem Holds.snoc {H : Hp} {r : Addr} {l : List Nat} : ∀ {rs : List Addr} {L : List (List Nat)}, Holds H rs L → H r = some (.lst (vs l)) → Holds H (rs ++ [r]) (L ++ [l])
  | [], [], _, h => ⟨h, trivial⟩
  | _ :: _, _ :: _, h, h2 => ⟨h.1, Holds.snoc h.2 h2⟩
  | [], _ :: _, h, _ => h.elim
  | _ :: _, [], h, _ => h.elim
theorem Holds.get {H : Hp} : ∀ {rs : List Addr} {L : List (List Nat)} {i : Nat} {r : Addr}, Holds H rs L → rs[i]? = some r → ∃ l, L[i]? = some l ∧ H r = some (.lst (vs l))
  | [], [], _, _, _, e => by simp at e
  | r :: rs, l :: L, 0, r', h, e => by
    have e' : r = r' := Option.some.inj e
    subst e'
    exact ⟨l, rfl, h.1⟩
  | r :: rs, l :: L, i + 1, r', h, e => Holds.get (i := i) h.2 e
  | [], _ :: _, _, _, h, _ => h.elim
  | _ :: _, [], _, _, h, _ => h.elim
def LL (H : Hp) (o : Addr) (L : List (List Nat)) : Prop := ∃ rs : List Addr, H o = some (.lst (rs.map V.ref)) ∧ Holds H rs L
theorem ref_get {rs : List Addr} {i : Nat} {x : V} (h : (rs.map V.ref)[i]? = some x) : ∃ r, rs[i]? = some r ∧ x = .ref r := by
  rw [List.getElem?_map] at h
  cases e : rs[i]? with
  | none => rw [e] at h; cases h
  | some z =>
    rw [e] at h
    exact ⟨z, rfl, (Option.some.inj h).symm⟩
def spLaid (K : PySem.W.Frag) : Sp := fun xs H Q _ => ∃ (a b : Addr) (g p : List Nat), xs = [.ref a, .ref b] ∧ SqL K H a (vs g) ∧ SqL K H b (vs p) ∧ (∀ x, x ∈ p → x < g.length) ∧ p.length ≤ 16 ∧ ∀ r H', Same H H' → H' r = some (.lst (vs (Sf20.laid g p))) → Q (.ref r) H'
def spAll (K : PySem.W.Frag) : Sp := fun xs H Q _ => ∃ (a : Addr) (c : List Nat), xs = [.ref a] ∧ SqL K H a (vs c) ∧ c.length ≤ 7 ∧ ∀ o H' (sc : List Nat), Same H H' → sc.Perm c → (sc.Pairwise fun x y => x ≤ y) → LL H' o (ordersAt c sc c.length) → Q (.ref o) H'
def spLeast (K : PySem.W.Frag) : Sp := fun xs H Q _ => ∃ (a b : Addr) (g c : List Nat), xs = [.ref a, .ref b] ∧ SqL K H a (vs g) ∧ SqL K H b (vs c) ∧ c.length = g.length ∧ 1 ≤ g.length ∧ g.length ≤ 7 ∧
  ∀ t p1 p2 H', Same H H' → H' t = some (.tup [.ref p1, .ref p2]) → H' p1 = some (.lst (vs (Sf20.formOf g c).1)) → H' p2 = some (.lst (vs (Sf20.formOf g c).2)) → Q (.ref t) H'
def spMain (K : PySem.W.Frag) : Sp := fun xs H Q _ => ∃ (a b : Addr) (g x : List Nat) (n : Int), xs = [.int n, .ref a, .ref b] ∧ SqL K H a (vs g) ∧ SqL K H b (vs x) ∧ (1 ≤ n → n ≤ 16 → (g.length : Int) = n) ∧ (1 ≤ n → n ≤ 16 → (x.length : Int) = n) ∧ (1 ≤ n → n ≤ 16 → n ≤ 7) ∧
  ∀ p H', H' p = some (.lst ((ans (Sf20.does (.form n g x))).map V.int)) → Q (.ref p) H'
theorem few7 {n : Int} (h : Sf20Neutral.few n 7 = true) : 1 ≤ n → n ≤ 16 → n ≤ 7 := fun a b => by
  unfold Sf20Neutral.few Sf20Neutral.within at h
  rw [decide_eq_true a, decide_eq_true b] at h
  exact of_decide_eq_true h
theorem scLaid : FnScope ["rows", "order", "found", "node", "row", "place", "other"] ["rows", "order"] (defScope sLaid) := ⟨rfl, rfl, rfl, by decide +kernel, rfl, by decide +kernel, by decide +kernel⟩
theorem scAll : FnScope ["colours", "orders", "colour", "longer", "order", "node"] ["colours"] (defScope sAll) := ⟨rfl, rfl, rfl, by decide +kernel, rfl, by decide +kernel, by decide +kernel⟩
theorem scLeast : FnScope ["rows", "colours", "best", "best_order", "order", "laid"] ["rows", "colours"] (defScope sLeast) := ⟨rfl, rfl, rfl, by decide +kernel, rfl, by decide +kernel, by decide +kernel⟩
theorem scMain : FnScope ["n", "rows", "colours", "found"] ["n", "rows", "colours"] (defScope sMain) := ⟨rfl, rfl, rfl, by decide +kernel, rfl, by decide +kernel, by decide +kernel⟩
theorem inV_vs (z : Nat) : ∀ l : List Nat, inV (vn z) (vs l) = l.contains z
  | [] => rfl
  | a :: l => by
    have ih := inV_vs z l
    have e : eqV (vn a) (vn z) = (z == a) := by
      show ((a : Int) == (z : Int)) = (z == a)
      by_cases c : a = z
      · subst c; simp
      · rw [beq_eq_false_iff_ne.mpr (fun w => c w.symm), beq_eq_false_iff_ne.mpr (by omega : (a : Int) ≠ (z : Int))]
    show (eqV (vn a) (vn z) || inV (vn z) (vs l)) = (a :: l).contains z
    rw [ih, e, List.contains_cons]
theorem vs_empty (l : List Nat) : (vs l).isEmpty = l.isEmpty := by cases l <;> rfl
/-- the orders that go on from one -/
def ext (c sc : List Nat) (k : Nat) (l : List Nat) (j : Nat) : List (List Nat) := ((List.range j).filter fun x => !l.contains x && (c.getD x 0 == sc.getD k 0)).map fun x => l ++ [x]
theorem ext_succ (c sc : List Nat) (k : Nat) (l : List Nat) (j : Nat) : ext c sc k l (j + 1) = if (!l.contains j && (c.getD j 0 == sc.getD k 0)) = true then ext c sc k l j ++ [l ++ [j]] else ext c sc k l j := by
  unfold ext
  rw [List.range_succ, List.filter_append, List.map_append, List.filter_cons, List.filter_nil]
  by_cases h : (!l.contains j && (c.getD j 0 == sc.getD k 0)) = true
  · rw [if_pos h, if_pos h]; rfl
  · rw [if_neg h, if_neg h, List.map_nil, List.append_nil]
theorem ext_le (c sc : List Nat) (k : Nat) (l : List Nat) (j : Nat) : (ext c sc k l j).length ≤ j := by
  unfold ext
  rw [List.length_map]
  have y := List.length_filter_le (fun x => !l.contains x && (c.getD x 0 == sc.getD k 0)) (List.range j)
  rw [List.length_range] at y
  exact y
theorem orders_few {c sc : List Nat} {k : Nat} (hk : k ≤ c.length) (hc : c.length ≤ 7) : (ordersAt c sc k).length ≤ 823543 := by
  have a := orders_le c sc k
  have b : c.length ^ k ≤ 7 ^ k := Nat.pow_le_pow_left hc k
  have d : 7 ^ k ≤ 7 ^ 7 := Nat.pow_le_pow_right (by decide) (by omega)
  have e : 7 ^ 7 = 823543 := by decide
  omega
theorem part_few {α β : Type} (L : List α) (f : α → List β) (i : Nat) : ((L.take i).flatMap f).length ≤ (L.flatMap f).length := by
  have e : L.flatMap f = (L.take i).flatMap f ++ (L.drop i).flatMap f := by
    rw [← List.flatMap_append, List.take_append_drop]
  rw [e, List.length_append]
  omega
theorem part_more {α β : Type} {L : List α} {f : α → List β} {i : Nat} {l : α} (h : L[i]? = some l) : (L.take (i + 1)).flatMap f = (L.take i).flatMap f ++ f l := by
  rw [take_more h, List.flatMap_append, List.flatMap_cons, List.flatMap_nil, List.append_nil]
section
variable {P : Program} {w : World} {K : PySem.W.Frag} {mg : Str → Option Value} {base : Heap}
theorem ok_laid {f : Addr} {fd : FuncData} (F : Fun K "laid_by" "laid_by" sLaid f fd) (me : mg "enumerate" = none) : FnOk P w K mg base CX0 1 f fd ["rows", "order"] (spLaid K) := by
  refine F.ok scLaid (fun xs H Q E h => ?_) (fun cdv A outer s H xs Q E hr h => ?_)
  · obtain ⟨a, b, g, p, rfl, _⟩ := h
    rfl
  obtain ⟨a, b, g, p, rfl, hS, hP, hlt, p16, q⟩ := h
  refine ⟨_, pss_cons (ps_set (i := 2) scLaid.nd rfl (.inl rfl) (pe_lst pa_nil))
    (pss_cons (ps_for PassesOwn.never rfl (pi_list (pv 1)) (pg_name (i := 3) scLaid.nd rfl (.inl rfl))
      (pss_cons (ps_set (i := 4) scLaid.nd rfl (.inl rfl) pe_int)
      (pss_cons (ps_for PassesOwn.never rfl (pi_enum (by rfl) me (pa_cons (pv 1) pa_nil)) (pg_tup rfl (pgs_cons (pg_name (i := 5) scLaid.nd rfl (.inl rfl)) (pgs_cons (pg_name (i := 6) scLaid.nd rfl (.inl rfl)) pgs_nil)))
        (pss_one (ps_set (i := 4) scLaid.nd rfl (.inl rfl) (pe_op op_or (pv 4) (pe_op op_shlN (pe_op op_odd (pe_op op_shrN (pe_ix ix_list (pv 0) (pv 3) (fun _ _ => rfl)) (pv 6)) pe_int) (pv 5))))))
      (pss_one (ps_expr (pe_bm PySem.F.plainAttrs_list PySem.F.slot_list_append PySem.F.type_list_append mt_append (pv 2) (pa_cons (pv 4) pa_nil)))))))
    (pss_one (ps_ret (pv 2)))), ?_⟩
  refine ⟨Nat.zero_le _, fun r nr => ?_⟩
  have s0 : Same H (upd H r (.lst [])) := same_upd nr
  refine ⟨_, rfl, b, rfl, ⟨_, s0.seq hP⟩, for_list (K := K) (a := b) (xs := vs p) (fun i σ H' => ∃ v3 v4 v5 v6 : Option V, σ = [some (.ref a), some (.ref b), some (.ref r), v3, v4, v5, v6] ∧ Same H H' ∧ H' r = some (.lst (vs ((p.take i).map fun x => laidTo g p x p.length))))
    ⟨none, none, none, none, rfl, s0, upd_same⟩ (fun i σ H' _ ⟨_, _, _, _, _, sm, _⟩ => sm.seq hP) ?_ ?_⟩
  · rintro i x σ H' hx ⟨v3, v4, v5, v6, rfl, sm, hr'⟩
    obtain ⟨z, hz, rfl⟩ := vs_get hx
    have hzg : z < g.length := hlt z (List.mem_of_getElem? hz)
    have hip : i < p.length := lt_of_get hz
    refine ⟨_, rfl, b, _, rfl, sm.seq hP, for_enum (K := K) (a := b) (xs := vs p) (fun j σ H'' => ∃ v5 v6 : Option V, σ = [some (.ref a), some (.ref b), some (.ref r), some (vn z), some (vn (laidTo g p z j)), v5, v6] ∧ Same H' H'')
      ⟨v5, v6, rfl, Same.refl H'⟩ (fun j σ H'' _ ⟨_, _, _, sm2⟩ => sm2.seq (sm.seq hP)) ?_ ?_⟩
    · rintro j y Tp σ H'' hy ⟨v5', v6', rfl, sm2⟩ hTp
      obtain ⟨o, ho, rfl⟩ := vs_get hy
      have sT : Same H' (upd H'' Tp (.tup [vn j, vn o])) := sm2.trans (same_upd hTp)
      have hjp : j < p.length := lt_of_get ho
      refine ⟨Tp, _, rfl, SqT.of upd_same, rfl, _, _, rfl, _, _, rfl, rfl, ?_⟩
      refine ⟨_, rfl, _, rfl, _, rfl, a, _, _, _, rfl, rfl, (sm.trans sT).seq hS, vs_at hzg, _, rfl, _, o, rfl, rfl, g.getD z 0 / 2 ^ o, ?_, rfl, ?_⟩
      · rw [Int.natCast_ediv, Int.natCast_pow]; rfl
      refine ⟨_, rfl, _, j, rfl, rfl, ?_, _, _, rfl, rfl, ?_⟩
      · exact shl_ok (n := 1) (by omega) (by omega)
      refine ⟨some (vn j), some (vn o), ?_, sT⟩
      have e1 : Builtin.bitOr ((laidTo g p z j : Nat) : Int) (((g.getD z 0 / 2 ^ o % 2 : Nat) : Int) * 2 ^ j) = ((laidTo g p z (j + 1) : Nat) : Int) := by
        have e2 : (((g.getD z 0 / 2 ^ o % 2 : Nat) : Int) * 2 ^ j) = (((g.getD z 0 / 2 ^ o % 2) * 2 ^ j : Nat) : Int) := by
          rw [Int.natCast_mul, Int.natCast_pow]; rfl
        rw [e2, bitOr_nn (by omega) (by omega), Int.toNat_natCast, Int.toNat_natCast, ← laidTo_or, getD_of ho]
        unfold Sf20.joined
        rw [Nat.toNat_testBit]
      show [_, _, _, _, some (V.int (Builtin.bitOr ((laidTo g p z j : Nat) : Int) (((g.getD z 0 / 2 ^ o % 2 : Nat) : Int) * 2 ^ j))), _, _] = _
      rw [e1]
      rfl
    · rintro σ H'' ⟨v5', v6', rfl, sm2⟩
      have hr2 := sm2 _ _ hr'
      refine ⟨_, rfl, .inl ⟨rfl, _, SqL.of hr2⟩, _, rfl, r, _, _, rfl, rfl, hr2, ?_, ?_⟩
      · rw [vs_len, List.length_map, List.length_take]
        exact small (by omega)
      refine ⟨_, _, _, _, rfl, fun b' o' h => ?_, ?_⟩
      · rw [upd_ne (ne_of_none h nr)]
        exact sm2 _ _ (sm _ _ h)
      · rw [upd_same, take_more hz, List.map_append, List.map_cons, List.map_nil, vs_snoc, vs_len]
  · rintro σ H' ⟨v3, v4, v5, v6, rfl, sm, hr'⟩
    rw [vs_len, List.take_length] at hr'
    exact ⟨_, rfl, q r H' sm hr'⟩
theorem ok_all {f : Addr} {fd : FuncData} (F : Fun K "all_orders" "all_orders" sAll f fd) (mso : mg "sorted" = none) (mr : mg "range" = none) (ml : mg "len" = none) : FnOk P w K mg base CX0 1 f fd ["colours"] (spAll K) := by
  refine F.ok scAll (fun xs H Q E h => ?_) (fun cdv A outer s H xs Q E hr h => ?_)
  · obtain ⟨a, c, rfl, _⟩ := h
    rfl
  obtain ⟨a, c, rfl, hC, c7, q⟩ := h
  refine ⟨_, pss_cons (ps_set (i := 1) scAll.nd rfl (.inl rfl) (pe_lst (pa_cons (pe_lst pa_nil) pa_nil)))
    (pss_cons (ps_for PassesOwn.never rfl (pi_list (pe_callB cr_sortedI rfl mso (by decide +kernel) (pa_cons (pv 0) pa_nil))) (pg_name (i := 2) scAll.nd rfl (.inl rfl))
      (pss_cons (ps_set (i := 3) scAll.nd rfl (.inl rfl) (pe_lst pa_nil))
      (pss_cons (ps_for PassesOwn.never rfl (pi_list (pv 1)) (pg_name (i := 4) scAll.nd rfl (.inl rfl))
        (pss_one (ps_for PassesOwn.never rfl (pi_range1 rfl mr (pa_cons (pe_callB call_len_seq rfl ml PySem.boot_len (pa_cons (pv 0) pa_nil)) pa_nil)) (pg_name (i := 5) scAll.nd rfl (.inl rfl))
          (pss_one (ps_if (PW.pt (pw_and (pt_cmpR op_eq (pe_ix ix_list (pv 0) (pv 5) (fun _ _ => rfl)) (pv 2) (nomark _)) (pw_and1 (pt_cmpR op_notIn_seq (pv 5) (pv 4) (by rfl)))))
            (pss_one (ps_expr (pe_bm PySem.F.plainAttrs_list PySem.F.slot_list_append PySem.F.type_list_append mt_append (pv 3) (pa_cons (pe_op op_cat (pv 4) (pe_lst (pa_cons (pv 5) pa_nil))) pa_nil)))) pss_nil)))))
      (pss_one (ps_set (i := 1) scAll.nd rfl (.inl rfl) (pv 3))))))
    (pss_one (ps_ret (pv 1)))), ?_⟩
  -- orders = [[]]
  refine ⟨Nat.zero_le _, fun e0 ne0 => ⟨by show 1 ≤ sizeLine; decide, fun o0 no0 => ?_⟩⟩
  have sA : Same H (upd H e0 (.lst [])) := same_upd ne0
  have sB : Same (upd H e0 (.lst [])) (upd (upd H e0 (.lst [])) o0 (.lst [.ref e0])) := same_upd no0
  have s0 := sA.trans sB
  have hC2 : SqL K (upd (upd H e0 (.lst [])) o0 (.lst [.ref e0])) a ((toI c).map V.int) := by
    rw [← vs_toI]
    exact s0.seq hC
  -- sorted(colours)
  refine ⟨_, rfl, a, toI c, rfl, hC2, fun ns' u hperm hsort nu => ?_⟩
  obtain ⟨sc, hsc, hp, hs⟩ : ∃ sc : List Nat, ns' = toI sc ∧ sc.Perm c ∧ sc.Pairwise fun x y => x ≤ y := by
    refine ⟨ns'.map Int.toNat, ?_, ?_, ?_⟩
    · unfold toI
      rw [List.map_map]
      refine (List.map_id ns').symm.trans (List.map_congr_left fun x hx => ?_)
      obtain ⟨y, _, hy⟩ := List.mem_map.mp (hperm.mem_iff.mp hx)
      show x = ((x.toNat : Nat) : Int)
      rw [← hy, Int.toNat_natCast]
    · have z := hperm.map Int.toNat
      have e : (toI c).map Int.toNat = c := by
        unfold toI
        rw [List.map_map]
        exact (List.map_congr_left fun x _ => Int.toNat_natCast x).trans (List.map_id c)
      rw [e] at z
      exact z
    · rw [List.pairwise_map]
      exact hsort.imp fun h => Int.toNat_le_toNat h
  subst hsc
  rw [← vs_toI]
  generalize hH0 : upd (upd H e0 (.lst [])) o0 (.lst [.ref e0]) = H0 at nu s0
  have sl : sc.length = c.length := hp.length_eq
  have sU : Same H0 (upd H0 u (.lst (vs sc))) := same_upd nu
  generalize hHu : upd H0 u (.lst (vs sc)) = Hu at sU
  have hu0 : Hu u = some (.lst (vs sc)) := by rw [← hHu]; exact upd_same
  have sHu : Same H Hu := s0.trans sU
  have start0 : LL Hu o0 (ordersAt c sc 0) := by
    refine ⟨[e0], ?_, ?_⟩
    · refine sU _ _ ?_
      rw [← hH0]
      exact upd_same
    · rw [ordersAt_zero]
      refine ⟨sU _ _ ?_, trivial⟩
      rw [← hH0]
      exact sB _ _ upd_same
  refine ⟨u, rfl, ⟨_, SqL.of hu0⟩, for_list (K := K) (a := u) (xs := vs sc) (fun k σ H' => ∃ (o : Addr) (v2 v3 v4 v5 : Option V), σ = [some (.ref a), some (.ref o), v2, v3, v4, v5] ∧ Same Hu H' ∧ LL H' o (ordersAt c sc k))
    ⟨o0, none, none, none, none, rfl, Same.refl Hu, start0⟩ (fun k σ H' _ ⟨_, _, _, _, _, _, sm, _⟩ => SqL.of (sm _ _ hu0)) ?_ ?_⟩
  · rintro k x σ H' hx ⟨o, v2, v3, v4, v5, rfl, sm, hL⟩
    obtain ⟨col, hcol, rfl⟩ := vs_get hx
    have ecol := getD_of hcol
    have hk : k < c.length := by have := lt_of_get hcol; omega
    obtain ⟨rs, ho, hrs⟩ := hL
    -- longer = []
    refine ⟨Nat.zero_le _, fun g ng => ?_⟩
    have sG : Same H' (upd H' g (.lst [])) := same_upd ng
    have og : o ≠ g := ne_of_none ho ng
    -- what longer holds
    have total : ∀ i, (((ordersAt c sc k).take i).flatMap fun l => ext c sc k l c.length).length ≤ 823543 := fun i => by
      have y := part_few (ordersAt c sc k) (fun l => ext c sc k l c.length) i
      have z := orders_few (sc := sc) (k := k + 1) (by omega) c7
      rw [ordersAt_succ] at z
      exact Nat.le_trans y z
    refine ⟨_, rfl, o, rfl, ⟨_, SqL.of (sG _ _ ho)⟩, for_list (K := K) (a := o) (xs := rs.map V.ref) (fun i σ H1 => ∃ (v4 v5 : Option V) (ts : List Addr), σ = [some (.ref a), some (.ref o), some (vn col), some (.ref g), v4, v5] ∧ Same H' H1 ∧
        H1 g = some (.lst (ts.map V.ref)) ∧ (∀ t, t ∈ ts → t ≠ g) ∧ Holds H1 ts (((ordersAt c sc k).take i).flatMap fun l => ext c sc k l c.length))
      ⟨v4, v5, [], rfl, sG, upd_same, (fun t h => nomatch h), trivial⟩ (fun i σ H1 _ ⟨_, _, _, _, s1, _⟩ => SqL.of (s1 _ _ ho)) ?_ ?_⟩
    · rintro i x σ H1 hx ⟨v4', v5', ts, rfl, s1, hg, hne, hts⟩
      obtain ⟨r, hr', rfl⟩ := ref_get hx
      obtain ⟨l, hl, hrl⟩ := hrs.get hr'
      have hl1 := s1 _ _ hrl
      obtain ⟨ll, llt⟩ := orders_mem (List.mem_of_getElem? hl)
      -- for node in range(len(colours))
      have hC1 : SqL K H1 a (vs c) := (sHu.trans (sm.trans s1)).seq hC
      refine ⟨_, rfl, a, _, rfl, .inl hC1, ?_⟩
      rw [vs_len]
      refine ⟨(c.length : Int), rfl, by omega, by omega, for_range (lo := 0) (n := (c.length : Int).toNat) (fun j σ H2 => ∃ (v5 : Option V) (us : List Addr), σ = [some (.ref a), some (.ref o), some (vn col), some (.ref g), some (.ref r), v5] ∧ Same H' H2 ∧
          H2 g = some (.lst (us.map V.ref)) ∧ (∀ t, t ∈ us → t ≠ g) ∧ Holds H2 us ((((ordersAt c sc k).take i).flatMap fun l => ext c sc k l c.length) ++ ext c sc k l j))
        ⟨v5', ts, rfl, s1, hg, hne, ?_⟩ ?_ ?_⟩
      · have e : ext c sc k l 0 = [] := rfl
        rw [e, List.append_nil]
        exact hts
      · rintro j σ H2 hj ⟨v5'', us, rfl, s2, hg2, hne2, hus⟩
        have hjc : j < c.length := by omega
        have ej : (V.int (0 + (j : Int))) = vn j := by unfold vn; rw [Int.zero_add]
        rw [ej]
        have hC2' : SqL K H2 a (vs c) := (sHu.trans (sm.trans s2)).seq hC
        have hl2 := s2 _ _ hrl
        have keep : (!l.contains j && (c.getD j 0 == sc.getD k 0)) = false → Holds H2 us ((((ordersAt c sc k).take i).flatMap fun l => ext c sc k l c.length) ++ ext c sc k l (j + 1)) := fun e => by
          rw [ext_succ, e, if_neg Bool.false_ne_true]
          exact hus
        refine ⟨_, rfl, _, rfl, a, _, _, _, rfl, rfl, hC2', vs_at hjc, _, rfl, rfl, _, rfl, ?_⟩
        rw [vn_eq]
        refine ite2 (fun c1 => ?_) (fun c1 => ?_)
        · refine ⟨_, rfl, _, rfl, r, _, rfl, .inl (SqL.of hl2), rfl, vs_flat l, _, rfl, ?_⟩
          rw [inV_vs]
          refine ite2 (fun c2 => ?_) (fun c2 => ?_)
          · have c2' : (!l.contains j) = true := c2
            refine ⟨_, rfl, .inl ⟨rfl, _, SqL.of hg2⟩, _, rfl, _, rfl, by show 1 ≤ sizeLine; decide, fun y ny => ?_⟩
            have sY : Same H2 (upd H2 y (.lst [vn j])) := same_upd ny
            refine ⟨r, y, _, _, rfl, rfl, sY _ _ hl2, upd_same, ?_, fun z nz => ?_⟩
            · rw [vs_len]
              exact Nat.le_of_lt (small (by show l.length + 1 ≤ 16000000; omega))
            have sZ : Same H2 _ := sY.trans (same_upd (o := .lst (vs l ++ [vn j])) nz)
            have zg : z ≠ g := fun e => by
              rw [e] at nz
              rw [sY _ _ hg2] at nz
              cases nz
            refine ⟨g, _, _, rfl, rfl, sZ _ _ hg2, ?_, ?_⟩
            · rw [List.length_map, hus.len, List.length_append]
              have t1 := total i
              have t2 := ext_le c sc k l j
              exact small (by omega)
            refine ⟨_, us ++ [z], rfl, fun b' o' h => ?_, ?_, fun t ht => ?_, ?_⟩
            · rw [upd_ne (ne_of_none h ng)]
              exact sZ _ _ (s2 _ _ h)
            · rw [upd_same, List.map_append]; rfl
            · rcases List.mem_append.mp ht with h | h
              · exact hne2 t h
              · rw [List.mem_singleton.mp h]
                exact zg
            · have cond : (!l.contains j && (c.getD j 0 == sc.getD k 0)) = true := by
                rw [c2', ecol, c1]; rfl
              rw [ext_succ, cond, if_pos rfl, ← List.append_assoc]
              refine Holds.snoc (Holds.mono (fun t ht o' h => ?_) hus) ?_
              · rw [upd_ne (hne2 t ht)]
                exact sZ _ _ h
              · rw [upd_ne zg, upd_same, vs_snoc]
          · have c2' : (!l.contains j) = false := Bool.eq_false_iff.mpr c2
            exact ⟨_, us, rfl, s2, hg2, hne2, keep (by rw [c2', Bool.false_and])⟩
        · refine iteF ?_
          exact ⟨_, us, rfl, s2, hg2, hne2, keep (by rw [ecol, Bool.eq_false_iff.mpr c1, Bool.and_false])⟩
      · rintro σ H2 ⟨v5'', us, rfl, s2, hg2, hne2, hus⟩
        rw [Int.toNat_natCast] at hus
        refine ⟨_, _, us, rfl, s2, hg2, hne2, ?_⟩
        rw [part_more hl]
        exact hus
    · rintro σ H1 ⟨v4', v5', ts, rfl, s1, hg, hne, hts⟩
      refine ⟨_, rfl, g, _, _, _, _, rfl, sm.trans s1, ts, hg, ?_⟩
      rw [List.length_map, hrs.len, List.take_length] at hts
      rw [ordersAt_succ]
      exact hts
  · rintro σ H' ⟨o, v2, v3, v4, v5, rfl, sm, hL⟩
    rw [vs_len, sl] at hL
    exact ⟨_, rfl, q o H' sc (sHu.trans sm) hp hs hL⟩
theorem ok_least {f fA fL : Addr} {fd fdA fdL : FuncData} {k : Nat} (F : Fun K "least_form" "least_form" sLeast f fd) (GA : FnOk P w K mg base CX0 (k + 1) fA fdA ["colours"] (spAll K)) (bA : Binds K fdA ["colours"] []) (kA : PySem.W.keepIn K (.ref fA) = true) (mA : mg "all_orders" = some (.ref fA))
    (GL : FnOk P w K mg base CX0 (k + 1) fL fdL ["rows", "order"] (spLaid K)) (bL : Binds K fdL ["rows", "order"] []) (kL : PySem.W.keepIn K (.ref fL) = true) (mL : mg "laid_by" = some (.ref fL)) : FnOk P w K mg base CX0 (k + 2) f fd ["rows", "colours"] (spLeast K) := by
  refine F.ok scLeast (fun xs H Q E h => ?_) (fun cdv A outer s H xs Q E hr h => ?_)
  · obtain ⟨a, b, g, c, rfl, _⟩ := h
    rfl
  obtain ⟨a, b, g, c, rfl, hS, hC, hcg, g1, g7, q⟩ := h
  refine ⟨_, pss_cons (ps_set (i := 2) scLeast.nd rfl (.inl rfl) (pe_lst pa_nil))
    (pss_cons (ps_set (i := 3) scLeast.nd rfl (.inl rfl) (pe_lst pa_nil))
    (pss_cons (ps_for PassesOwn.never rfl (pi_list (pe_call GA hr rfl mA kA bA .nil pass0 (pa_cons (pv 1) pa_nil))) (pg_name (i := 4) scLeast.nd rfl (.inl rfl))
      (pss_cons (ps_set (i := 5) scLeast.nd rfl (.inl rfl) (pe_call GL hr rfl mL kL bL .nil pass0 (pa_cons (pv 0) (pa_cons (pv 4) pa_nil))))
      (pss_one (ps_if (PW.pt (pw_or (pt_not (pt_truth (pv 2) (by intro _; rfl))) (pw_or1 (pt_cmpR (op_ltL hr.units0) (pv 5) (pv 2) (nomark _)))))
        (pss_cons (ps_set (i := 2) scLeast.nd rfl (.inl rfl) (pv 5)) (pss_one (ps_set (i := 3) scLeast.nd rfl (.inl rfl) (pv 4)))) pss_nil))))
    (pss_one (ps_ret (pe_tup (pa_cons (pv 2) (pa_cons (pv 3) pa_nil))))))), ?_⟩
  refine ⟨Nat.zero_le _, fun p1 n1 => ⟨Nat.zero_le _, fun p2 n2 => ?_⟩⟩
  have s1 : Same H (upd H p1 (.lst [])) := same_upd n1
  have s2 : Same (upd H p1 (.lst [])) (upd (upd H p1 (.lst [])) p2 (.lst [])) := same_upd n2
  have s12 := s1.trans s2
  refine ⟨_, rfl, b, c, rfl, s12.seq hC, by omega, fun o Ho sc so hp hs hL => ?_⟩
  have sHo := s12.trans so
  have hfin := (formOf_is (c := c) g1).trans (congrArg (form g) (orders_is hcg hp hs))
  obtain ⟨rs, ho, hrs⟩ := hL
  have mem : ∀ (i : Nat) (p : List Nat), (ordersAt c sc c.length)[i]? = some p → p.length = g.length ∧ ∀ x, x ∈ p → x < g.length := fun i p h => by
    obtain ⟨y1, y2⟩ := orders_mem (List.mem_of_getElem? h)
    exact ⟨by omega, fun x hx => by have := y2 x hx; omega⟩
  have memL : ∀ p : List Nat, p ∈ ordersAt c sc c.length → p.length = g.length := fun p h => by have := (orders_mem h).1; omega
  generalize ordersAt c sc c.length = L at hrs hfin mem memL
  refine ⟨o, rfl, ⟨_, SqL.of ho⟩, for_list (K := K) (a := o) (xs := rs.map V.ref) (fun i σ H' => ∃ (x y : Addr) (v4 v5 : Option V), σ = [some (.ref a), some (.ref b), some (.ref x), some (.ref y), v4, v5] ∧ Same Ho H' ∧
      H' x = some (.lst (vs (form g (L.take i)).1)) ∧ H' y = some (.lst (vs (form g (L.take i)).2)))
    ⟨p1, p2, none, none, rfl, Same.refl Ho, so _ _ (s2 _ _ upd_same), so _ _ upd_same⟩ (fun i σ H' _ ⟨_, _, _, _, _, sm, _⟩ => SqL.of (sm _ _ ho)) ?_ ?_⟩
  · rintro i v σ H' hx ⟨x, y, v4, v5, rfl, sm, hx1, hy1⟩
    obtain ⟨r, hr', rfl⟩ := ref_get hx
    obtain ⟨p, hpL, hrp⟩ := hrs.get hr'
    obtain ⟨pl, plt⟩ := mem i p hpL
    have step := form_more (g := g) hpL
    refine ⟨_, rfl, _, rfl, a, r, g, p, rfl, (sHo.trans sm).seq hS, SqL.of (sm _ _ hrp), plt, by omega, fun d H2 s3 hd => ?_⟩
    have hx2 := s3 _ _ hx1
    have hy2 := s3 _ _ hy1
    have sm2 := sm.trans s3
    have hlen := form_len (g := g) (n := g.length) (L.take i) (fun (p' : List Nat) h => memL p' (List.mem_of_mem_take h))
    generalize form g (L.take i) = st at hx2 hy2 step hlen
    refine ⟨_, rfl, !st.1.isEmpty, .inl ⟨_, SqL.of hx2, by rw [vs_empty]⟩, ?_⟩
    have take : st.1 = [] ∨ Sf20.first (Sf20.laid g p) st.1 = true → form g (L.take (i + 1)) = (Sf20.laid g p, p) := fun h => step.trans (if_pos h)
    have skip : ¬ (st.1 = [] ∨ Sf20.first (Sf20.laid g p) st.1 = true) → form g (L.take (i + 1)) = st := fun h => step.trans (if_neg h)
    refine ite2 (fun c1 => ?_) (fun c1 => ?_)
    · rw [Bool.not_not, List.isEmpty_iff] at c1
      refine iteT ⟨_, rfl, _, rfl, d, r, _, _, rfl, sm2, ?_, ?_⟩
      · rw [take (.inl c1)]
        exact hd
      · rw [take (.inl c1)]
        exact s3 _ _ (sm _ _ hrp)
    · have c1' : st.1 ≠ [] := fun z => c1 (by rw [Bool.not_not, List.isEmpty_iff]; exact z)
      refine ⟨_, rfl, _, rfl, d, x, Sf20.laid g p, st.1, rfl, rfl, SqL.of hd, SqL.of hx2, ?_, _, rfl, ite2 (fun c2 => ?_) (fun c2 => ?_)⟩
      · rcases hlen with ⟨h, _⟩ | ⟨h, _⟩
        · exact absurd h c1'
        · rw [laid_len, pl, h]
      · refine ⟨_, rfl, _, rfl, d, r, _, _, rfl, sm2, ?_, ?_⟩
        · rw [take (.inr c2)]
          exact hd
        · rw [take (.inr c2)]
          exact s3 _ _ (sm _ _ hrp)
      · have e := skip (fun z => by
          rcases z with z | z
          · exact c1' z
          · exact c2 z)
        refine ⟨x, y, _, _, rfl, sm2, ?_, ?_⟩
        · rw [e]
          exact hx2
        · rw [e]
          exact hy2
  · rintro σ H' ⟨x, y, v4, v5, rfl, sm, hx1, hy1⟩
    rw [List.length_map, hrs.len, List.take_length, ← hfin] at hx1 hy1
    refine ⟨_, rfl, _, rfl, by show 2 ≤ sizeLine; decide, fun t nt => ?_⟩
    have s4 : Same H' (upd H' t (.tup [.ref x, .ref y])) := same_upd nt
    exact q t x y _ (sHo.trans (sm.trans s4)) upd_same (s4 _ _ hx1) (s4 _ _ hy1)
theorem ok_main {f fI fL : Addr} {fd fdI fdL : FuncData} {k : Nat} {tR : Tok} (F : Fun K "form" "form" sMain f fd) (GI : FnOk P w K mg base CX0 (k + 1) fI fdI ["n", "rows"] (spIsg K)) (bI : Binds K fdI ["n", "rows"] []) (kI : PySem.W.keepIn K (.ref fI) = true) (mI : mg "is_graph" = some (.ref fI))
    (GL : FnOk P w K mg base CX0 (k + 1) fL fdL ["rows", "colours"] (spLeast K)) (bL : Binds K fdL ["rows", "colours"] []) (kL : PySem.W.keepIn K (.ref fL) = true) (mL : mg "least_form" = some (.ref fL))
    (mR : mg "REFUSED" = some (.int (-1) tR)) : FnOk P w K mg base CX0 (k + 2) f fd ["n", "rows", "colours"] (spMain K) := by
  refine F.ok scMain (fun xs H Q E h => ?_) (fun cdv A outer s H xs Q E hr h => ?_)
  · obtain ⟨a, b, g, x, n, rfl, _⟩ := h
    rfl
  obtain ⟨a, b, g, x, n, rfl, hS, hX, hn, hx, h7, q⟩ := h
  refine ⟨_, pss_cons (ps_if (pt_not (pt_val (pe_call GI hr rfl mI kI bI .nil pass0 (pa_cons (pv 0) (pa_cons (pv 1) pa_nil))))) (pss_one (ps_ret (pe_lst (pa_cons (pe_glob (v := .int (-1)) rfl mR ⟨_, rfl⟩) pa_nil)))) pss_nil)
    (pss_cons (ps_set (i := 3) scMain.nd rfl (.inl rfl) (pe_call GL hr rfl mL kL bL .nil pass0 (pa_cons (pv 1) (pa_cons (pv 2) pa_nil))))
    (pss_one (ps_ret (pe_op op_cat (pe_op op_cat (pe_lst (pa_cons pe_int pa_nil)) (pe_ix ix_tup (pv 3) pe_int (fun _ _ => rfl))) (pe_ix ix_tup (pv 3) pe_int (fun _ _ => rfl)))))), ?_⟩
  refine ⟨_, rfl, _, rfl, a, g, n, rfl, hS, hn, _, rfl, ?_⟩
  refine ite2 (fun c => ?_) (fun c => ?_)
  · have c' : (Sf20.count n && Sf20.good g) = false := bang_t c
    refine ⟨by show 1 ≤ sizeLine; decide, fun p hp => q p _ ?_⟩
    have e : Sf20.does (.form n g x) = Sf20.ok (-1) := if_pos c'
    rw [upd_same, e]; rfl
  · have c' : (Sf20.count n && Sf20.good g) = true := bang_f c
    obtain ⟨c1, c2⟩ := Bool.and_eq_true_iff.mp c'
    obtain ⟨g1, g16⟩ := good_len c2
    have nc := c1
    unfold Sf20.count at nc
    rw [Bool.and_eq_true] at nc
    have n1 : 1 ≤ n := of_decide_eq_true nc.1
    have n16 : n ≤ 16 := of_decide_eq_true nc.2
    have l1 := hn n1 n16
    have l2 := hx n1 n16
    have l3 := h7 n1 n16
    have e : Sf20.does (.form n g x) = ⟨((0 : Nat) : Int), (Sf20.formOf g x).1 ++ (Sf20.formOf g x).2⟩ := if_neg (by rw [c']; exact Bool.noConfusion)
    rw [e, ans_vs] at q
    have lens : (Sf20.formOf g x).1.length ≤ 16 ∧ (Sf20.formOf g x).2.length ≤ 16 := by
      rw [formOf_is (c := x) g1]
      rcases form_len (g := g) (n := g.length) (Sf20.orders g x) (fun (p : List Nat) h => (rows_mem (List.mem_filter.mp h).1).1) with ⟨h1, h2⟩ | ⟨h1, h2⟩
      · rw [h1, h2]
        exact ⟨Nat.zero_le _, Nat.zero_le _⟩
      · rw [h1, h2]
        exact ⟨g16, g16⟩
    refine ⟨_, rfl, _, rfl, a, b, g, x, rfl, hS, hX, by omega, g1, by omega, fun t p1 p2 H1 s1 ht h1 h2 => ?_⟩
    generalize Sf20.formOf g x = fo at q lens h1 h2
    refine ⟨by show 1 ≤ sizeLine; decide, fun z nz => ?_⟩
    have sz : Same H1 (upd H1 z (.lst [.int 0])) := same_upd nz
    refine ⟨_, rfl, t, _, _, _, rfl, rfl, SqT.of (sz _ _ ht), rfl, ?_⟩
    refine ⟨z, p1, _, _, rfl, rfl, upd_same, sz _ _ h1, ?_, fun y ny => ?_⟩
    · rw [vs_len]
      exact Nat.le_of_lt (small (by show 1 + fo.1.length ≤ 16000000; omega))
    have sy := sz.trans (same_upd (o := .lst ([.int 0] ++ vs fo.1)) ny)
    refine ⟨_, rfl, t, _, _, _, rfl, rfl, SqT.of (sy _ _ ht), rfl, ?_⟩
    refine ⟨y, p2, _, _, rfl, rfl, upd_same, sy _ _ h2, ?_, fun y2 ny2 => q y2 _ ?_⟩
    · rw [List.length_append, vs_len, vs_len]
      exact Nat.le_of_lt (small (by show 1 + fo.1.length + fo.2.length ≤ 16000000; omega))
    · have ev : vs (0 :: (fo.1 ++ fo.2)) = [V.int 0] ++ vs fo.1 ++ vs fo.2 := by
        unfold vs
        rw [List.map_cons, List.map_append]; rfl
      rw [upd_same, ev]
end
end Sg
/-! ### the end: what the top has left -/
namespace Sg
open PySem PySem.Spec PyProof.Rows L2
theorem all_mk {P : Program} {w : World} {K : PySem.W.Frag} {h : Heap} {mg : Str → Option Value} {fa f1 f2 f3 f4 f5 f6 : Addr} (X : K.In h) (G : h.Ns mainGlobals mg) (hfa : mg "form" = some (.ref fa))
    {od1 an1 od2 an2 od3 an3 od4 an4 od5 an5 od6 an6 : Option Addr} {sl1 sl2 sl3 sl4 sl5 sl6 : Array (Option Value)} {oc1 kV1 dc1 pm1 cd1 ct1 oc2 kV2 dc2 pm2 cd2 ct2 oc3 kV3 dc3 pm3 cd3 ct3 oc4 kV4 dc4 pm4 cd4 ct4 oc5 kV5 dc5 pm5 cd5 ct5 oc6 kV6 dc6 pm6 cd6 ct6 : Value}
    {t1 t2 : Tok}
    (a1 : PySem.W.nsIn K mainGlobals "are_joined" = some (some (.ref f1)))
    (l1 : K.lookup f1 = some ⟨oc1, od1, .func (PySem.W.fnOf "are_joined" "are_joined" (defArgs sAre) (defBody sAre) (defScope sAre) .none kV1 dc1 pm1 an1 cd1 ct1), sl1⟩) (c1 : PySem.W.codeIn K cd1 "are_joined" = true) (k1 : PySem.W.keepIn K (.ref f1) = true)
    (a2 : PySem.W.nsIn K mainGlobals "is_graph" = some (some (.ref f2)))
    (l2 : K.lookup f2 = some ⟨oc2, od2, .func (PySem.W.fnOf "is_graph" "is_graph" (defArgs sIsg) (defBody sIsg) (defScope sIsg) .none kV2 dc2 pm2 an2 cd2 ct2), sl2⟩) (c2 : PySem.W.codeIn K cd2 "is_graph" = true) (k2 : PySem.W.keepIn K (.ref f2) = true)
    (a3 : PySem.W.nsIn K mainGlobals "laid_by" = some (some (.ref f3)))
    (l3 : K.lookup f3 = some ⟨oc3, od3, .func (PySem.W.fnOf "laid_by" "laid_by" (defArgs sLaid) (defBody sLaid) (defScope sLaid) .none kV3 dc3 pm3 an3 cd3 ct3), sl3⟩) (c3 : PySem.W.codeIn K cd3 "laid_by" = true) (k3 : PySem.W.keepIn K (.ref f3) = true)
    (a4 : PySem.W.nsIn K mainGlobals "all_orders" = some (some (.ref f4)))
    (l4 : K.lookup f4 = some ⟨oc4, od4, .func (PySem.W.fnOf "all_orders" "all_orders" (defArgs sAll) (defBody sAll) (defScope sAll) .none kV4 dc4 pm4 an4 cd4 ct4), sl4⟩) (c4 : PySem.W.codeIn K cd4 "all_orders" = true) (k4 : PySem.W.keepIn K (.ref f4) = true)
    (a5 : PySem.W.nsIn K mainGlobals "least_form" = some (some (.ref f5)))
    (l5 : K.lookup f5 = some ⟨oc5, od5, .func (PySem.W.fnOf "least_form" "least_form" (defArgs sLeast) (defBody sLeast) (defScope sLeast) .none kV5 dc5 pm5 an5 cd5 ct5), sl5⟩) (c5 : PySem.W.codeIn K cd5 "least_form" = true) (k5 : PySem.W.keepIn K (.ref f5) = true)
    (a6 : PySem.W.nsIn K mainGlobals "form" = some (some (.ref f6)))
    (l6 : K.lookup f6 = some ⟨oc6, od6, .func (PySem.W.fnOf "form" "form" (defArgs sMain) (defBody sMain) (defScope sMain) .none kV6 dc6 pm6 an6 cd6 ct6), sl6⟩) (c6 : PySem.W.codeIn K cd6 "form" = true) (k6 : PySem.W.keepIn K (.ref f6) = true)
    (n1 : PySem.W.nsIn K mainGlobals "NODES_AT_MOST" = some (some (.int (16) t1)))
    (n2 : PySem.W.nsIn K mainGlobals "REFUSED" = some (some (.int (-1) t2)))
    (z1 : PySem.W.nsIn K mainGlobals "range" = some none)
    (z2 : PySem.W.nsIn K mainGlobals "len" = some none)
    (z3 : PySem.W.nsIn K mainGlobals "enumerate" = some none)
    (z4 : PySem.W.nsIn K mainGlobals "sorted" = some none)
    : ∃ fd : FuncData, (∀ (s : Shared) (us : List Value), us.length = (["n", "rows", "colours"] : List Str).length → BindsTo s fd ⟨us, []⟩ ((["n", "rows", "colours"] : List Str).zip us)) ∧ ∀ base : Heap, K.In base → base.Ns mainGlobals mg → FnOk P w K mg base CX0 5 fa fd ["n", "rows", "colours"] (spMain K) := by
  have e := hfa.symm.trans (PySem.W.mg_of X G a6)
  cases e
  have F1 := fun_mk (st := sAre) l1 c1 k1
  have F2 := fun_mk (st := sIsg) l2 c2 k2
  have F3 := fun_mk (st := sLaid) l3 c3 k3
  have F4 := fun_mk (st := sAll) l4 c4 k4
  have F5 := fun_mk (st := sLeast) l5 c5 k5
  have F6 := fun_mk (st := sMain) l6 c6 k6
  have b1 := F1.binds (ps := ["rows", "i", "j"]) fun _ _ _ _ _ _ us hl => match us, hl with | [_, _, _], _ => rfl
  have b2 := F2.binds (ps := ["n", "rows"]) fun _ _ _ _ _ _ us hl => match us, hl with | [_, _], _ => rfl
  have b3 := F3.binds (ps := ["rows", "order"]) fun _ _ _ _ _ _ us hl => match us, hl with | [_, _], _ => rfl
  have b4 := F4.binds (ps := ["colours"]) fun _ _ _ _ _ _ us hl => match us, hl with | [_], _ => rfl
  have b5 := F5.binds (ps := ["rows", "colours"]) fun _ _ _ _ _ _ us hl => match us, hl with | [_, _], _ => rfl
  have m1 := PySem.W.mg_of X G a1
  have m2 := PySem.W.mg_of X G a2
  have m3 := PySem.W.mg_of X G a3
  have m4 := PySem.W.mg_of X G a4
  have m5 := PySem.W.mg_of X G a5
  have m6 := PySem.W.mg_of X G a6
  have mc1 := PySem.W.mg_of X G n1
  have mc2 := PySem.W.mg_of X G n2
  have mb1 := PySem.W.mg_none_of X G z1
  have mb2 := PySem.W.mg_none_of X G z2
  have mb3 := PySem.W.mg_none_of X G z3
  have mb4 := PySem.W.mg_none_of X G z4
  refine ⟨PySem.W.fnOf "form" "form" (defArgs sMain) (defBody sMain) (defScope sMain) .none kV6 dc6 pm6 an6 cd6 ct6, fun s us hu => match us, hu with | [_, _, _], _ => .of_eq rfl, fun base _ _ => ?_⟩
  have GI := ok_isg (P := P) (w := w) (base := base) (k := 2) F2 F1 b1 m1 mc1 mb1
  have GL := (ok_laid (P := P) (w := w) (base := base) F3 mb3).mono (by decide : 1 ≤ 3)
  have GA := (ok_all (P := P) (w := w) (base := base) F4 mb4 mb1 mb2).mono (by decide : 1 ≤ 3)
  have GF := ok_least (P := P) (w := w) (base := base) (k := 2) F5 GA b4 F4.kp m4 GL b3 F3.kp m3
  exact ok_main (k := 3) F6 GI b2 F2.kp m2 GF b5 F5.kp m5 mc2
end Sg
open PySem PySem.W PyProof.Rows
set_option maxRecDepth 100000 in
set_option maxHeartbeats 8000000 in
theorem PySem.Challenge.cw_smallgraphs_s01_form_holds : PySem.Challenge.rw_smallgraphs_s01_form.Holds := by
  w_on; k_headS; (case hw => exact ⟨[.int 0, .list [], .list []], by decide +kernel, by decide +kernel⟩)
  k_fillS
  refine L2.walk_specK (r := PySem.Challenge.rw_smallgraphs_s01_form) (k := 5) (CX := L2.CX0) (ps := ["n", "rows", "colours"]) (sp := Sg.spMain) (by decide +kernel) rfl rfl ⟨rfl, by decide, by decide⟩ (fun w h Y => PySem.W.kIn_of Y) ?F ?S (fun _ _ _ _ z => z)
  case F =>
    intro w mg fa h Y KX G hmg
    refine' Sg.all_mk KX G hmg ?a1 ?l1 ?c1 ?k1 ?a2 ?l2 ?c2 ?k2 ?a3 ?l3 ?c3 ?k3 ?a4 ?l4 ?c4 ?k4 ?a5 ?l5 ?c5 ?k5 ?a6 ?l6 ?c6 ?k6 ?n1 ?n2 ?z1 ?z2 ?z3 ?z4
    (case a1 => k_is)
    (case l1 => k_is)
    (case c1 => k_is)
    (case k1 => k_is)
    (case a2 => k_is)
    (case l2 => k_is)
    (case c2 => k_is)
    (case k2 => k_is)
    (case a3 => k_is)
    (case l3 => k_is)
    (case c3 => k_is)
    (case k3 => k_is)
    (case a4 => k_is)
    (case l4 => k_is)
    (case c4 => k_is)
    (case k4 => k_is)
    (case a5 => k_is)
    (case l5 => k_is)
    (case c5 => k_is)
    (case k5 => k_is)
    (case a6 => k_is)
    (case l6 => k_is)
    (case c6 => k_is)
    (case k6 => k_is)
    (case n1 => k_is)
    (case n2 => k_is)
    (case z1 => k_is)
    (case z2 => k_is)
    (case z3 => k_is)
    (case z4 => k_is)
  case S =>
    intro K H xs a hO hwi hask hx
    obtain ⟨n, ns, cs, u⟩ := a
    cases hx with
    | cons h1 hx =>
      cases hx with
      | cons h2 hx =>
        cases hx with
        | cons h3 hx =>
          cases hx
          cases h1
          cases h2 with
          | lst hs ha =>
            cases h3 with
            | lst ht hb =>
              have e := L2.ints_dw ns _ ha
              subst e
              have e := L2.ints_dw cs _ hb
              subst e
              have hask' : Sf20Neutral.asked [[0], [n], ns, cs] = true := hask
              have q : (Sf20Neutral.whole32 n && (Sf20Neutral.few n 7 && (Sf20Neutral.row ns n 65535 && Sf20Neutral.row cs n 255))) = true := hask'
              rw [Bool.and_eq_true, Bool.and_eq_true, Bool.and_eq_true] at q
              obtain ⟨r1, r2⟩ := Sg.row_nat q.2.2.1
              obtain ⟨r3, r4⟩ := Sg.row_nat q.2.2.2
              rw [r1] at hs
              rw [r3] at ht
              exact ⟨_, _, Sf20Neutral.nats ns, Sf20Neutral.nats cs, n, rfl, hs, ht, r2, r4, Sg.few7 q.2.1, fun p H' hp => .lst (L2.SqL.of hp) (L2.dw_ints _)⟩
