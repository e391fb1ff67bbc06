import PyProof.Rows.All
import Wide.All
import OpenK.AllK
import Wide.FinOn
import PyProof.EqAt
import PyProof.EqKinds
import PyProof.TupleCall
import Open.SpecLaws
import KE.OsGo
import HandS.Base
import HandS.Call
import HandS.List
import HandS.Comp
import HandS.Iter
import HandS.Ends
import HandS.Words
import HandS.WordsList
import HandS.Spec
import HandS.WideBits
import HandS.SortInts
import KE.LtSeq
import PySem.Challenge.RW_smallgraphs_s03_same
set_option Elab.async false
set_option linter.all false
set_option maxRecDepth 100000
set_option maxHeartbeats 4000000
namespace Sg
open Sf20

/-! ### plain: graphs -/
theorem good_iff (g : Graph) : good g = true ↔ (1 ≤ g.length ∧ g.length ≤ 16) ∧ (∀ i, i < g.length → g.getD i 0 < 2 ^ g.length) ∧
    (∀ i, i < g.length → joined g i i = false) ∧ ∀ i j, i < g.length → j < g.length → joined g i j = joined g j i := by
  have key : (g.all fun r => decide (r < 2 ^ g.length)) = true ↔ ∀ i, i < g.length → g.getD i 0 < 2 ^ g.length := by
    rw [List.all_eq_true]
    constructor
    · intro h i hi
      have e : g.getD i 0 = g[i] := by simp [hi]
      rw [e]
      exact of_decide_eq_true (h _ (List.getElem_mem hi))
    · intro h r hr
      obtain ⟨i, hi, rfl⟩ := List.getElem_of_mem hr
      have e : g.getD i 0 = g[i] := by simp [hi]
      have q := h i hi
      rw [e] at q
      exact decide_eq_true q
  unfold good
  rw [Bool.and_eq_true, Bool.and_eq_true, Bool.and_eq_true, key, List.all_eq_true]
  simp only [decide_eq_true_eq, List.mem_range, MOST, Bool.and_eq_true, Bool.not_eq_true', List.all_eq_true, beq_iff_eq]
  constructor
  · rintro ⟨⟨⟨h0, h1⟩, h2⟩, h3⟩
    exact ⟨⟨h0, of_decide_eq_true h1⟩, h2, fun i hi => (h3 i hi).1, fun i j hi hj => (h3 i hi).2 j hj⟩
  · rintro ⟨h1, h2, h3, h4⟩
    exact ⟨⟨⟨h1.1, decide_eq_true h1.2⟩, h2⟩, fun i hi => ⟨h3 i hi, fun j hj => h4 i j hi hj⟩⟩
theorem good_len {g : Graph} (h : good g = true) : 1 ≤ g.length ∧ g.length ≤ 16 := ((good_iff g).mp h).1
theorem good_no {g : Graph} (h : good g = true) (i : Nat) : joined g i i = false := by
  by_cases hi : i < g.length
  · exact ((good_iff g).mp h).2.2.1 i hi
  · unfold joined
    have e : g.getD i 0 = 0 := by simp [List.getD, List.getElem?_eq_none (Nat.le_of_not_lt hi)]
    rw [e, Nat.zero_testBit]
theorem good_sym {g : Graph} (h : good g = true) {i j : Nat} (hi : i < g.length) (hj : j < g.length) : joined g i j = joined g j i := ((good_iff g).mp h).2.2.2 i j hi hj
/-- the bit test of the program -/
theorem bit_joined (r j : Nat) : decide (((r : Int) / 2 ^ j) % 2 = 1) = r.testBit j := by
  rw [Nat.testBit_eq_decide_div_mod_eq]
  have e : ((r : Int) / 2 ^ j) % 2 = ((r / 2 ^ j % 2 : Nat) : Int) := by
    rw [Int.natCast_emod, Int.natCast_ediv, Int.natCast_pow]; rfl
  rw [e]
  exact decide_eq_decide.mpr (by omega)
theorem take_more {α : Type} {l : List α} {i : Nat} {x : α} (h : l[i]? = some x) : l.take (i + 1) = l.take i ++ [x] := by
  rw [List.take_add_one, h]; rfl
end Sg
namespace Sg
open Sf20
/-! ### plain: ways, grown node by node -/
/-- each place of the row is allowed behind those before it -/
def grown (step : Row → Nat → Bool) (m : Row) : Bool := (List.range m.length).all fun i => step (m.take i) (m.getD i 0)
theorem grown_nil (step : Row → Nat → Bool) : grown step [] = true := rfl
theorem all_congr {α : Type} {p q : α → Bool} : ∀ {l : List α}, (∀ x, x ∈ l → p x = q x) → l.all p = l.all q
  | [], _ => rfl
  | a :: l, h => by rw [List.all_cons, List.all_cons, h a (List.mem_cons_self ..), all_congr fun x hx => h x (List.mem_cons_of_mem _ hx)]
theorem grown_snoc (step : Row → Nat → Bool) (l : Row) (x : Nat) : grown step (l ++ [x]) = (grown step l && step l x) := by
  unfold grown
  rw [List.length_append, List.length_singleton, List.range_succ, List.all_append]
  congr 1
  · refine all_congr fun i hi => ?_
    have hi' := List.mem_range.mp hi
    rw [List.take_append_of_le_length (Nat.le_of_lt hi')]
    have e : (l ++ [x]).getD i 0 = l.getD i 0 := by simp [List.getD, List.getElem?_append_left hi']
    rw [e]
  · have e : (l ++ [x]).getD l.length 0 = x := by simp [List.getD]
    simp only [List.all_cons, List.all_nil, Bool.and_true, List.take_left', e]
/-- the nodes that may follow -/
def nexts (step : Row → Nat → Bool) (n : Nat) (l : Row) : List Nat := (List.range n).filter fun x => !l.contains x && step l x
/-- all rows that begin with l and have f more, each place allowed -/
def ways (step : Row → Nat → Bool) (n : Nat) : Nat → Row → List Row
  | 0, l => [l]
  | f + 1, l => (nexts step n l).flatMap fun x => ways step n f (l ++ [x])
theorem flatMap_congr' {α β : Type} {f g : α → List β} : ∀ {l : List α}, (∀ x, x ∈ l → f x = g x) → l.flatMap f = l.flatMap g
  | [], _ => rfl
  | a :: l, h => by
    rw [List.flatMap_cons, List.flatMap_cons, h a (List.mem_cons_self ..), flatMap_congr' fun x hx => h x (List.mem_cons_of_mem _ hx)]
theorem filter_congr' {α : Type} {p q : α → Bool} : ∀ {l : List α}, (∀ x, x ∈ l → p x = q x) → l.filter p = l.filter q
  | [], _ => rfl
  | a :: l, h => by
    have z := filter_congr' (l := l) (fun x hx => h x (List.mem_cons_of_mem _ hx))
    have y := h a (List.mem_cons_self ..)
    by_cases e : p a = true
    · rw [List.filter_cons_of_pos e, List.filter_cons_of_pos (by rw [← y]; exact e), z]
    · rw [List.filter_cons_of_neg e, List.filter_cons_of_neg (by rw [← y]; exact e), z]
theorem filter_flatMap' {α β : Type} {p : β → Bool} {f : α → List β} : ∀ {l : List α}, (l.flatMap f).filter p = l.flatMap fun x => (f x).filter p
  | [] => rfl
  | a :: l => by rw [List.flatMap_cons, List.flatMap_cons, List.filter_append, filter_flatMap']
theorem flatMap_filter' {α β : Type} {p : α → Bool} {f : α → List β} : ∀ {l : List α}, (l.filter p).flatMap f = l.flatMap fun x => if p x = true then f x else []
  | [] => rfl
  | a :: l => by
    rw [List.flatMap_cons]
    by_cases e : p a = true
    · rw [List.filter_cons_of_pos e, List.flatMap_cons, flatMap_filter', if_pos e]
    · rw [List.filter_cons_of_neg e, flatMap_filter', if_neg e, List.nil_append]
/-- one node more, at the end -/
theorem rows_step (step : Row → Nat → Bool) (n k : Nat) : (rows n (k + 1)).filter (grown step) = ((rows n k).filter (grown step)).flatMap fun l => (nexts step n l).map fun x => l ++ [x] := by
  show ((rows n k).flatMap fun l => ((List.range n).filter fun x => !l.contains x).map fun x => l ++ [x]).filter (grown step) = _
  rw [filter_flatMap', flatMap_filter']
  refine flatMap_congr' fun l _ => ?_
  rw [List.filter_map, List.filter_filter]
  by_cases e : grown step l = true
  · rw [if_pos e]
    unfold nexts
    congr 1
    refine filter_congr' fun x _ => ?_
    show (grown step (l ++ [x]) && !l.contains x) = _
    rw [grown_snoc, e, Bool.true_and, Bool.and_comm]
  · rw [if_neg e]
    have z : (List.range n).filter (fun a => (grown step ∘ fun x => l ++ [x]) a && !l.contains a) = [] := by
      rw [List.filter_eq_nil_iff]
      intro x _
      show ¬ (grown step (l ++ [x]) && !l.contains x) = true
      rw [grown_snoc, Bool.eq_false_iff.mpr e]
      simp
    rw [z]; rfl
/-- one by one from the front, or all rows at once from the back -/
theorem rows_front (step : Row → Nat → Bool) (n : Nat) : ∀ (k : Nat), (rows n k).filter (grown step) = ways step n k [] ∧ ∀ f, ((rows n k).filter (grown step)).flatMap (ways step n f) = ways step n (k + f) [] := by
  have two : ∀ k, ((rows n (k + 1)).filter (grown step)) = ((rows n k).filter (grown step)).flatMap fun l => ways step n 1 l := fun k => by
    rw [rows_step]
    refine flatMap_congr' fun l _ => ?_
    have e1 : ∀ L : List Nat, (L.flatMap fun x => ways step n 0 (l ++ [x])) = L.map fun x => l ++ [x] := fun L => by
      induction L with
      | nil => rfl
      | cons a L ih => rw [List.flatMap_cons, List.map_cons, ih]; rfl
    exact (e1 _).symm
  have one : ∀ k, ∀ f, ((rows n k).filter (grown step)).flatMap (ways step n f) = ways step n (k + f) [] := fun k => by
    induction k with
    | zero =>
      intro f
      show ([[]] : List Row).flatMap (ways step n f) = _
      rw [List.flatMap_cons, List.flatMap_nil, List.append_nil, Nat.zero_add]
    | succ k ih =>
      intro f
      rw [two k, List.flatMap_assoc]
      have e : (k + 1) + f = k + (f + 1) := by omega
      rw [e, ← ih (f + 1)]
      refine flatMap_congr' fun l _ => ?_
      show (((nexts step n l).flatMap fun x => [l ++ [x]]).flatMap fun y => ways step n f y) = (nexts step n l).flatMap fun x => ways step n f (l ++ [x])
      rw [List.flatMap_assoc]
      refine flatMap_congr' fun x _ => ?_
      rw [List.flatMap_cons, List.flatMap_nil, List.append_nil]
  intro k
  refine ⟨?_, one k⟩
  have z := one k 0
  rw [Nat.add_zero] at z
  rw [← z]
  have e : ∀ L : List Row, L.flatMap (ways step n 0) = L := fun L => by
    induction L with
    | nil => rfl
    | cons a L ih => rw [List.flatMap_cons, ih]; rfl
  rw [e]
theorem rows_ways (step : Row → Nat → Bool) (n k : Nat) : (rows n k).filter (grown step) = ways step n k [] := (rows_front step n k).1
/-- a member of rows -/
theorem rows_mem {n : Nat} : ∀ {k : Nat} {m : Row}, m ∈ rows n k → m.length = k ∧ m.Nodup ∧ ∀ x, x ∈ m → x < n
  | 0, m, h => by
    have e : m = [] := List.mem_singleton.mp h
    subst e
    exact ⟨rfl, List.nodup_nil, fun x hx => nomatch hx⟩
  | k + 1, m, h => by
    obtain ⟨l, hl, h2⟩ := List.mem_flatMap.mp h
    obtain ⟨x, hx, rfl⟩ := List.mem_map.mp h2
    obtain ⟨a, b⟩ := List.mem_filter.mp hx
    obtain ⟨h3, h4, h5⟩ := rows_mem hl
    have nx : x ∉ l := by simpa using b
    refine ⟨by rw [List.length_append, List.length_singleton, h3], ?_, fun y hy => ?_⟩
    · rw [List.nodup_append]
      exact ⟨h4, by simp, fun a ha b hb => by rw [List.mem_singleton.mp hb]; exact fun z => nx (z ▸ ha)⟩
    · rcases List.mem_append.mp hy with z | z
      · exact h5 y z
      · rw [List.mem_singleton.mp z]
        exact List.mem_range.mp a
/-- how many rows there may be -/
theorem ways_le (step : Row → Nat → Bool) (n : Nat) : ∀ (f : Nat) (l : Row), (ways step n f l).length ≤ n ^ f
  | 0, _ => Nat.le_refl _
  | f + 1, l => by
    have one : ∀ L : List Nat, (L.flatMap fun x => ways step n f (l ++ [x])).length ≤ L.length * n ^ f := fun L => by
      induction L with
      | nil => rw [List.flatMap_nil]; exact Nat.zero_le _
      | cons a L ih =>
        have q := ways_le step n f (l ++ [a])
        rw [List.flatMap_cons, List.length_append, List.length_cons, Nat.succ_mul]
        omega
    have q := one (nexts step n l)
    have r : (nexts step n l).length ≤ n := by
      have z : (nexts step n l).length ≤ (List.range n).length := List.length_filter_le _ _
      rw [List.length_range] at z
      exact z
    rw [Nat.pow_succ, Nat.mul_comm]
    exact Nat.le_trans q (Nat.mul_le_mul_right _ r)

/-! ### plain: what may_go asks -/
def stepX (exact : Bool) (a b : Graph) (x y : Row) (l : Row) (z : Nat) : Bool :=
  x.getD l.length 0 == y.getD z 0 && (List.range l.length).all fun i => (!joined a l.length i || joined b z (l.getD i 0)) && (!exact || !joined b z (l.getD i 0) || joined a l.length i)
theorem getD_take {m : Row} {i j : Nat} (h : j < i) : (m.take i).getD j 0 = m.getD j 0 := by
  simp [List.getD, h]
theorem mem_getD {m : Row} {i : Nat} (h : i < m.length) : m.getD i 0 ∈ m := by
  have e : m.getD i 0 = m[i] := by simp [h]
  rw [e]
  exact List.getElem_mem h
/-- what grown says, place by place -/
theorem grown_iff {exact : Bool} {a b : Graph} {x y m : Row} : grown (stepX exact a b x y) m = true ↔ (∀ i, i < m.length → x.getD i 0 = y.getD (m.getD i 0) 0) ∧
    ∀ i j, i < m.length → j < i → (joined a i j = true → joined b (m.getD i 0) (m.getD j 0) = true) ∧ (exact = true → joined b (m.getD i 0) (m.getD j 0) = true → joined a i j = true) := by
  unfold grown
  rw [List.all_eq_true]
  have key : ∀ i, i < m.length → (stepX exact a b x y (m.take i) (m.getD i 0) = true ↔ x.getD i 0 = y.getD (m.getD i 0) 0 ∧
      ∀ j, j < i → (joined a i j = true → joined b (m.getD i 0) (m.getD j 0) = true) ∧ (exact = true → joined b (m.getD i 0) (m.getD j 0) = true → joined a i j = true)) := fun i hi => by
    have l : (m.take i).length = i := by rw [List.length_take]; omega
    unfold stepX
    rw [l, Bool.and_eq_true, beq_iff_eq, List.all_eq_true]
    refine and_congr Iff.rfl ?_
    constructor
    · intro h j hj
      have q := h j (List.mem_range.mpr hj)
      rw [getD_take hj] at q
      revert q
      cases joined a i j <;> cases joined b (m.getD i 0) (m.getD j 0) <;> cases exact <;> simp
    · intro h j hj
      have hj' := List.mem_range.mp hj
      have q := h j hj'
      rw [getD_take hj']
      revert q
      cases joined a i j <;> cases joined b (m.getD i 0) (m.getD j 0) <;> cases exact <;> simp
  constructor
  · intro h
    exact ⟨fun i hi => ((key i hi).mp (h i (List.mem_range.mpr hi))).1, fun i j hi hj => ((key i hi).mp (h i (List.mem_range.mpr hi))).2 j hj⟩
  · rintro ⟨h1, h2⟩ i hi
    have hi' := List.mem_range.mp hi
    exact (key i hi').mpr ⟨h1 i hi', fun j hj => h2 i j hi' hj⟩
theorem isWay_iff {a b : Graph} {x y m : Row} : isWay a b x y m = true ↔ (∀ i, i < a.length → x.getD i 0 = y.getD (m.getD i 0) 0) ∧ ∀ i j, i < a.length → j < a.length → joined a i j = joined b (m.getD i 0) (m.getD j 0) := by
  unfold isWay
  simp only [List.all_eq_true, List.mem_range, Bool.and_eq_true, beq_iff_eq]
  exact ⟨fun h => ⟨fun i hi => (h i hi).1, fun i j hi hj => (h i hi).2 j hj⟩, fun h i hi => ⟨h.1 i hi, fun j hj => h.2 i j hi hj⟩⟩
theorem isCopy_iff {p g : Graph} {m : Row} : isCopy p g m = true ↔ ∀ i j, i < p.length → j < p.length → joined p i j = true → joined g (m.getD i 0) (m.getD j 0) = true := by
  unfold isCopy
  simp only [List.all_eq_true, List.mem_range, Bool.or_eq_true, Bool.not_eq_true']
  constructor
  · intro h i j hi hj e
    rcases h i hi j hj with q | q
    · rw [q] at e; cases e
    · exact q
  · intro h i hi j hj
    cases e : joined p i j with
    | false => exact .inl rfl
    | true => exact .inr (h i j hi hj e)
theorem way_grown {a b : Graph} (ha : good a = true) (hb : good b = true) {x y m : Row} (hm : m ∈ rows b.length a.length) : isWay a b x y m = grown (stepX true a b x y) m := by
  obtain ⟨l, _, lt⟩ := rows_mem hm
  have mlt : ∀ i, i < a.length → m.getD i 0 < b.length := fun i hi => lt _ (mem_getD (by omega))
  apply Bool.eq_iff_iff.mpr
  rw [isWay_iff, grown_iff, l]
  refine and_congr Iff.rfl ?_
  constructor
  · intro h i j hi hj
    rw [h i j hi (by omega)]
    exact ⟨id, fun _ => id⟩
  · intro h i j hi hj
    have low : ∀ i j, i < a.length → j < i → joined a i j = joined b (m.getD i 0) (m.getD j 0) := fun i j hi hj => by
      obtain ⟨p, q⟩ := h i j hi hj
      cases e1 : joined a i j <;> cases e2 : joined b (m.getD i 0) (m.getD j 0)
      · rfl
      · rw [q rfl e2] at e1; cases e1
      · rw [p e1] at e2; cases e2
      · rfl
    rcases Nat.lt_trichotomy i j with q | q | q
    · rw [good_sym ha hi hj, good_sym hb (mlt i hi) (mlt j hj)]
      exact low j i hj q
    · subst q
      rw [good_no ha, good_no hb]
    · exact low i j hi q
theorem copy_grown {p g : Graph} (hp : good p = true) (hg : good g = true) {x y m : Row} (hm : m ∈ rows g.length p.length) (hxy : ∀ i j, i < p.length → x.getD i 0 = y.getD j 0) : isCopy p g m = grown (stepX false p g x y) m := by
  obtain ⟨l, _, lt⟩ := rows_mem hm
  have mlt : ∀ i, i < p.length → m.getD i 0 < g.length := fun i hi => lt _ (mem_getD (by omega))
  apply Bool.eq_iff_iff.mpr
  rw [isCopy_iff, grown_iff, l]
  constructor
  · intro h
    exact ⟨fun i hi => hxy i _ hi, fun i j hi hj => ⟨h i j hi (by omega), fun z => Bool.noConfusion z⟩⟩
  · rintro ⟨_, h⟩ i j hi hj e
    rcases Nat.lt_trichotomy i j with q | q | q
    · rw [good_sym hg (mlt i hi) (mlt j hj)]
      exact (h j i hj q).1 (by rw [good_sym hp hj hi]; exact e)
    · subst q
      rw [good_no hp] at e
      cases e
    · exact (h i j hi q).1 e
theorem symmetries_is {g : Graph} (hg : good g = true) (x : Row) : symmetries g x = (ways (stepX true g g x x) g.length g.length []).length := by
  unfold symmetries
  rw [← rows_ways]
  exact congrArg List.length (filter_congr' fun m hm => way_grown hg hg hm)
theorem copies_is {p g : Graph} (hp : good p = true) (hg : good g = true) {x y : Row} (hxy : ∀ i j, i < p.length → x.getD i 0 = y.getD j 0) : copies p g = (ways (stepX false p g x y) g.length p.length []).length := by
  unfold copies
  rw [← rows_ways]
  exact congrArg List.length (filter_congr' fun m hm => copy_grown hp hg hm hxy)
theorem wayOf_is {a b : Graph} (ha : good a = true) (hb : good b = true) (hl : a.length = b.length) (x y : Row) : wayOf a b x y = (ways (stepX true a b x y) b.length a.length []).head? := by
  unfold wayOf
  rw [if_pos hl, ← rows_ways, ← List.head?_filter]
  refine congrArg List.head? ?_
  rw [hl]
  exact filter_congr' fun m hm => way_grown ha hb (by rw [hl]; exact hm)
/-- the first of ways -/
theorem head_flat {α β : Type} {f : α → List β} : ∀ {l : List α}, (l.flatMap f).head? = l.findSome? fun x => (f x).head?
  | [] => rfl
  | a :: l => by
    rw [List.flatMap_cons, List.findSome?_cons]
    cases e : f a with
    | nil => rw [List.nil_append, head_flat]; rfl
    | cons b r => rfl
end Sg
/-! ### the walk: words -/
namespace Sg
open PySem PySem.Spec PyProof.Rows L2
def vn (x : Nat) : V := .int (x : Int)
def vs (l : List Nat) : List V := l.map vn
theorem same_upd {H : Hp} {p : Addr} {o : HO} (h : H p = none) : Same H (upd H p o) := fun b x e => by
  rw [upd_ne (ne_of_none e h)]
  exact e
theorem vs_at {l : List Nat} {i : Nat} (h : i < l.length) : atI (vs l) (i : Int) = some (vn (l.getD i 0)) := by
  refine atI_nat ?_
  unfold vs
  rw [List.getElem?_map, List.getElem?_eq_getElem h]
  have e : l.getD i 0 = l[i] := by simp [h]
  rw [e]; rfl
theorem vs_get {l : List Nat} {i : Nat} {x : V} (h : (vs l)[i]? = some x) : ∃ z, l[i]? = some z ∧ x = vn z := by
  unfold vs at h
  rw [List.getElem?_map] at h
  cases e : l[i]? with
  | none => rw [e] at h; cases h
  | some z =>
    rw [e] at h
    exact ⟨z, rfl, (Option.some.inj h).symm⟩
theorem vs_len (l : List Nat) : (vs l).length = l.length := List.length_map _
theorem vs_snoc (l : List Nat) (x : Nat) : vs (l ++ [x]) = vs l ++ [vn x] := by
  unfold vs
  rw [List.map_append]; rfl
theorem vs_flat (l : List Nat) : (vs l).all flatV = true := by
  rw [List.all_eq_true]
  intro x hx
  obtain ⟨z, _, rfl⟩ := List.mem_map.mp hx
  rfl
theorem getD_of {l : List Nat} {i z : Nat} (h : l[i]? = some z) : l.getD i 0 = z := by simp [List.getD, h]
theorem lt_of_get {α : Type} {l : List α} {i : Nat} {z : α} (h : l[i]? = some z) : i < l.length := by
  rcases Nat.lt_or_ge i l.length with q | q
  · exact q
  · rw [List.getElem?_eq_none q] at h; cases h
theorem vn_eq (a b : Nat) : decide (vn a = vn b) = (a == b) := by
  by_cases e : a = b
  · subst e; simp
  · have h : ¬ vn a = vn b := fun q => e (by injection q with q; exact Int.ofNat.inj q)
    rw [decide_eq_false h]
    exact (beq_eq_false_iff_ne.mpr e).symm
theorem small {n : Nat} (h : n ≤ 16000000) : n < sizeLine := Nat.lt_of_le_of_lt h (by decide)
theorem bang_t {b : Bool} (h : (!b) = true) : b = false := by
  cases b with
  | false => rfl
  | true => cases h
theorem bang_f {b : Bool} (h : ¬ (!b) = true) : b = true := by
  cases b with
  | false => exact absurd rfl h
  | true => rfl
/-! ### the text -/
def top (i : Nat) : Stmt := PySem.Challenge.pw_smallgraphs_s03_same.main.body.getD i (.Pass ⟨0, 0, 0, 0⟩)
abbrev sAre : Stmt := top 3
abbrev sIsg : Stmt := top 4
def spAre (K : PySem.W.Frag) : Sp := fun xs H Q _ => ∃ (a : Addr) (g : List Nat) (i j : Nat), xs = [.ref a, vn i, vn j] ∧ SqL K H a (vs g) ∧ i < g.length ∧ Q (.bl (Sf20.joined g i j)) H
def spIsg (K : PySem.W.Frag) : Sp := fun xs H Q _ => ∃ (a : Addr) (g : List Nat) (n : Int), xs = [.int n, .ref a] ∧ SqL K H a (vs g) ∧ (1 ≤ n → n ≤ 16 → (g.length : Int) = n) ∧ Q (.bl (Sf20.count n && Sf20.good g)) H
theorem scAre : FnScope ["rows", "i", "j"] ["rows", "i", "j"] (defScope sAre) := ⟨rfl, rfl, rfl, by decide +kernel, rfl, by decide +kernel, by decide +kernel⟩
theorem scIsg : FnScope ["n", "rows", "i", "j"] ["n", "rows"] (defScope sIsg) := ⟨rfl, rfl, rfl, by decide +kernel, rfl, by decide +kernel, by decide +kernel⟩
section
variable {P : Program} {w : World} {K : PySem.W.Frag} {mg : Str → Option Value} {base : Heap}
theorem ok_are {f : Addr} {fd : FuncData} (F : Fun K "are_joined" "are_joined" sAre f fd) : FnOk P w K mg base CX0 1 f fd ["rows", "i", "j"] (spAre K) := by
  refine F.ok scAre (fun xs H Q E h => ?_) (fun cdv A outer s H xs Q E hr h => ?_)
  · obtain ⟨a, g, i, j, rfl, _⟩ := h
    rfl
  obtain ⟨a, g, i, j, rfl, hS, hi, q⟩ := h
  refine ⟨_, pss_one (ps_ret (pe_cmpR op_eq (pe_op op_odd (pe_op op_shrN (pe_ix ix_list (pv 0) (pv 1) (fun _ _ => rfl)) (pv 2)) pe_int) pe_int (nomark _))), ?_⟩
  refine ⟨_, rfl, _, rfl, a, _, _, _, rfl, rfl, hS, vs_at hi, _, rfl, _, j, rfl, rfl, g.getD i 0 / 2 ^ j, ?_, rfl, rfl, ?_⟩
  · rw [Int.natCast_ediv, Int.natCast_pow]; rfl
  · have e : decide (V.int ((g.getD i 0 / 2 ^ j % 2 : Nat) : Int) = V.int 1) = Sf20.joined g i j := by
      have z := vn_eq (g.getD i 0 / 2 ^ j % 2) 1
      unfold Sf20.joined
      rw [Nat.testBit_eq_decide_div_mod_eq]
      exact z.trans (by rw [Bool.eq_iff_iff]; simp)
    show Q (.bl (decide (V.int ((g.getD i 0 / 2 ^ j % 2 : Nat) : Int) = V.int 1))) H
    rw [e]
    exact q
theorem ok_isg {f fA : Addr} {fd fdA : FuncData} {k : Nat} {t16 : Tok} (F : Fun K "is_graph" "is_graph" sIsg f fd) (FA : Fun K "are_joined" "are_joined" sAre fA fdA) (bA : Binds K fdA ["rows", "i", "j"] []) (mA : mg "are_joined" = some (.ref fA))
    (mN : mg "NODES_AT_MOST" = some (.int 16 t16)) (mr : mg "range" = none) : FnOk P w K mg base CX0 (k + 2) f fd ["n", "rows"] (spIsg K) := by
  have GA : FnOk P w K mg base CX0 (k + 1) fA fdA ["rows", "i", "j"] (spAre K) := (ok_are FA).mono (by omega)
  refine F.ok scIsg (fun xs H Q E h => ?_) (fun cdv A outer s H xs Q E hr h => ?_)
  · obtain ⟨a, g, n, rfl, _⟩ := h
    rfl
  obtain ⟨a, g, n, rfl, hS, hn, q⟩ := h
  refine ⟨_, pss_cons (ps_if (PW.pt (pw_or (pt_cmpR op_lt (pv 0) pe_int (nomark _)) (pw_or1 (pt_cmpR op_gt (pv 0) (pe_glob (v := .int 16) rfl mN ⟨_, rfl⟩) (nomark _))))) (pss_one (ps_ret pe_bl)) pss_nil)
    (pss_cons (ps_for PassesOwn.never rfl (pi_range1 rfl mr (pa_cons (pv 0) pa_nil)) (pg_name (i := 2) scIsg.nd rfl (.inl rfl))
      (pss_cons (ps_if (PW.pt (pw_or (pt_cmpR op_ge (pe_ix ix_list (pv 1) (pv 2) (fun _ _ => rfl)) (pe_op op_oneShl pe_int (pv 0)) (nomark _))
          (pw_or1 (pt_val (pe_call GA hr rfl mA FA.kp bA .nil pass0 (pa_cons (pv 1) (pa_cons (pv 2) (pa_cons (pv 2) pa_nil)))))))) (pss_one (ps_ret pe_bl)) pss_nil)
        (pss_one (ps_for PassesOwn.never rfl (pi_range1 rfl mr (pa_cons (pv 0) pa_nil)) (pg_name (i := 3) scIsg.nd rfl (.inl rfl))
          (pss_one (ps_if (pt_cmpR op_ne (pe_call GA hr rfl mA FA.kp bA .nil pass0 (pa_cons (pv 1) (pa_cons (pv 2) (pa_cons (pv 3) pa_nil))))
            (pe_call GA hr rfl mA FA.kp bA .nil pass0 (pa_cons (pv 1) (pa_cons (pv 3) (pa_cons (pv 2) pa_nil)))) (nomark _)) (pss_one (ps_ret pe_bl)) pss_nil))))))
    (pss_one (ps_ret pe_bl))), ?_⟩
  -- n < 1 or n > 16
  refine ⟨_, rfl, _, _, rfl, rfl, _, rfl, ite2 (fun c => ?_) (fun c => ?_)⟩
  · refine iteT ?_
    have c' : n < 1 := of_decide_eq_true c
    have e : Sf20.count n = false := by
      unfold Sf20.count
      rw [decide_eq_false (by omega : ¬ 1 ≤ n), Bool.false_and]
    rw [e, Bool.false_and] at q
    exact q
  have c1 : ¬ n < 1 := fun z => c (decide_eq_true z)
  refine ⟨_, rfl, _, _, rfl, rfl, _, rfl, ite2 (fun c => ?_) (fun c => ?_)⟩
  · have c' : 16 < n := of_decide_eq_true c
    have e : Sf20.count n = false := by
      unfold Sf20.count
      rw [decide_eq_false (by show ¬ n ≤ ((16 : Nat) : Int); omega : ¬ n ≤ (Sf20.MOST : Int)), Bool.and_false]
    rw [e, Bool.false_and] at q
    exact q
  have c2 : ¬ 16 < n := fun z => c (decide_eq_true z)
  obtain ⟨m, rfl⟩ : ∃ m : Nat, n = (m : Int) := ⟨n.toNat, by omega⟩
  have hl : g.length = m := by have := hn (by omega) (by omega); omega
  have ec : Sf20.count (m : Int) = true := by
    unfold Sf20.count
    rw [decide_eq_true (by omega : 1 ≤ (m : Int)), decide_eq_true (by show (m : Int) ≤ ((16 : Nat) : Int); omega : (m : Int) ≤ (Sf20.MOST : Int))]; rfl
  rw [ec, Bool.true_and] at q
  have bad : Sf20.good g = false → Q (.bl false) H := fun e => by rw [e] at q; exact q
  -- for i in range(n)
  refine ⟨_, rfl, (m : Int), rfl, by omega, by omega, for_range (lo := 0) (n := (m : Int).toNat) (fun i σ H' => ∃ v2 v3 : Option V, σ = [some (.int (m : Int)), some (.ref a), v2, v3] ∧ H' = H ∧
    ∀ i', i' < i → g.getD i' 0 < 2 ^ m ∧ Sf20.joined g i' i' = false ∧ ∀ j, j < m → Sf20.joined g i' j = Sf20.joined g j i') ⟨none, none, rfl, rfl, fun i' h => absurd h (Nat.not_lt_zero _)⟩ ?_ ?_⟩
  · rintro i σ H' hi ⟨v2, v3, rfl, rfl, inv⟩
    have hi' : i < m := by omega
    have hig : i < g.length := by omega
    have ei : (V.int (0 + (i : Int))) = vn i := by unfold vn; rw [Int.zero_add]
    rw [ei]
    refine ⟨_, rfl, _, rfl, a, _, _, _, rfl, rfl, hS, vs_at hig, _, rfl, m, rfl, rfl, by omega, _, _, rfl, rfl, _, rfl, ite2 (fun c => ?_) (fun c => ?_)⟩
    · refine iteT (bad (Bool.eq_false_iff.mpr fun z => ?_))
      have c' := of_decide_eq_true c
      have lt := ((good_iff g).mp z).2.1 i hig
      rw [hl] at lt
      have lt' : ((g.getD i 0 : Nat) : Int) < 2 ^ m := by exact_mod_cast lt
      omega
    have c3 : g.getD i 0 < 2 ^ m := by
      have c' : ¬ ((2 : Int) ^ m ≤ ((g.getD i 0 : Nat) : Int)) := fun z => c (decide_eq_true z)
      have c'' : ((g.getD i 0 : Nat) : Int) < 2 ^ m := by omega
      exact_mod_cast c''
    refine ⟨_, rfl, _, rfl, _, rfl, a, g, i, i, rfl, hS, hig, _, rfl, ite2 (fun c => ?_) (fun c => ?_)⟩
    · exact bad (Bool.eq_false_iff.mpr fun z => by rw [((good_iff g).mp z).2.2.1 i hig] at c; cases c)
    have c4 : Sf20.joined g i i = false := Bool.eq_false_iff.mpr c
    -- for j in range(n)
    refine ⟨_, rfl, (m : Int), rfl, by omega, by omega, for_range (lo := 0) (n := (m : Int).toNat) (fun j σ H'' => ∃ v3 : Option V, σ = [some (.int (m : Int)), some (.ref a), some (vn i), v3] ∧ H'' = H' ∧
      ∀ j', j' < j → Sf20.joined g i j' = Sf20.joined g j' i) ⟨v3, rfl, rfl, fun j' h => absurd h (Nat.not_lt_zero _)⟩ ?_ ?_⟩
    · rintro j σ H'' hj ⟨v3, rfl, rfl, inv2⟩
      have hj' : j < m := by omega
      have hjg : j < g.length := by omega
      have ej : (V.int (0 + (j : Int))) = vn j := by unfold vn; rw [Int.zero_add]
      rw [ej]
      refine ⟨_, rfl, _, rfl, _, rfl, a, g, i, j, rfl, hS, hig, _, rfl, _, rfl, _, rfl, a, g, j, i, rfl, hS, hjg, rfl, _, rfl, ?_⟩
      have e : (!decide (V.bl (Sf20.joined g i j) = V.bl (Sf20.joined g j i))) = !(Sf20.joined g i j == Sf20.joined g j i) := by
        cases Sf20.joined g i j <;> cases Sf20.joined g j i <;> rfl
      refine ite2 (fun c => ?_) (fun c => ?_)
      · rw [e] at c
        exact bad (Bool.eq_false_iff.mpr fun z => by rw [good_sym z hig hjg] at c; simp at c)
      · rw [e] at c
        have c5 : Sf20.joined g i j = Sf20.joined g j i := by simpa using c
        refine ⟨_, rfl, rfl, fun j' h => ?_⟩
        rcases Nat.lt_or_ge j' j with z | z
        · exact inv2 j' z
        · have z' : j' = j := by omega
          subst z'
          exact c5
    · rintro σ H'' ⟨v3, rfl, rfl, inv2⟩
      refine ⟨_, _, rfl, rfl, fun i' h => ?_⟩
      rcases Nat.lt_or_ge i' i with z | z
      · exact inv i' z
      · have z' : i' = i := by omega
        subst z'
        exact ⟨c3, c4, fun j h => inv2 j (by omega)⟩
  · rintro σ H' ⟨v2, v3, rfl, rfl, inv⟩
    have e : Sf20.good g = true := (good_iff g).mpr ⟨by omega, fun i hi => by rw [hl]; exact (inv i (by omega)).1, fun i hi => (inv i (by omega)).2.1, fun i j hi hj => (inv i (by omega)).2.2 j (by omega)⟩
    rw [e] at q
    exact q
end
end Sg
/-! ### for i, x in enumerate(xs) -/
namespace Sg
open PySem PySem.Spec PyProof.Rows L2
theorem for_enum {K : PySem.W.Frag} {a : Addr} {xs : List V} {g : TG} {tb : TS} {D : Ends} {σ : L2.St} {H : Hp} (Pv : Nat → L2.St → Hp → Prop) (h0 : Pv 0 σ H) (hl : ∀ i σ H, i ≤ xs.length → Pv i σ H → SqL K H a xs)
    (hs : ∀ i x T σ H, xs[i]? = some x → Pv i σ H → H T = none → g (.ref T) σ (upd H T (.tup [vn i, x])) fun σ2 H2 => tb { D with nx := Pv (i + 1), ct := Pv (i + 1), bk := D.nx } σ2 H2) (hd : ∀ σ H, Pv xs.length σ H → D.nx σ H) :
    ∃ W : Nat → Nat → L2.St → Hp → Prop, (∃ m, W 0 m σ H) ∧ ∀ i m σ H, W i m σ H →
      ((Ite K a).stop i H ∧ D.nx σ H) ∨ ((Ite K a).go i H ∧ ∃ N : L2.St → Hp → Prop, (∀ σ' H', N σ' H' → ∃ m', m' < m ∧ W (i + 1) m' σ' H') ∧ ∀ x H', (Ite K a).yld i H x H' → g x σ H' fun σ2 H2 => tb { D with nx := N, ct := N, bk := D.nx } σ2 H2) := by
  refine ⟨fun i m σ H => m = xs.length - i ∧ i ≤ xs.length ∧ Pv i σ H, ⟨xs.length, by simp, Nat.zero_le _, h0⟩, ?_⟩
  rintro i m σ H ⟨rfl, hi, p⟩
  have q := hl i σ H hi p
  by_cases hlt : i < xs.length
  · have hx : xs[i]? = some xs[i] := by simp [hlt]
    refine .inr ⟨⟨xs, xs[i], q, hx⟩, Pv (i + 1), fun σ' H' p' => ⟨xs.length - (i + 1), by omega, rfl, hlt, p'⟩, fun v H' y => ?_⟩
    obtain ⟨T, x, rfl, nT, rfl, hy⟩ := y
    exact hs i x T σ H (hy xs q) p nT
  · have e : i = xs.length := by omega
    subst e
    exact .inl ⟨⟨xs, q, Nat.le_refl _⟩, hd σ H p⟩
end Sg
/-! ### the request and the answer -/
namespace Sg
open PySem PySem.Spec PyProof.Rows L2
def ans (y : Sf20.Ans) : List Int := y.v :: y.l.map fun (x : Nat) => (x : Int)
theorem ans_vs (n : Nat) (l : List Nat) : (ans ⟨(n : Int), l⟩).map V.int = vs (n :: l) := by
  unfold ans vs
  rw [List.map_cons, List.map_map, List.map_cons]; rfl
theorem row_nat {l : List Int} {n top : Int} (h : Sf20Neutral.row l n top = true) : l.map V.int = vs (Sf20Neutral.nats l) ∧ (1 ≤ n → n ≤ 16 → ((Sf20Neutral.nats l).length : Int) = n) := by
  unfold Sf20Neutral.row at h
  rw [Bool.and_eq_true, List.all_eq_true] at h
  obtain ⟨h1, h2⟩ := h
  constructor
  · unfold vs Sf20Neutral.nats
    rw [List.map_map]
    refine List.map_congr_left fun x hx => ?_
    have q := h1 x hx
    unfold Sf20Neutral.within at q
    rw [Bool.and_eq_true] at q
    have q' := of_decide_eq_true q.1
    show V.int x = vn x.toNat
    unfold vn
    rw [Int.toNat_of_nonneg q']
  · intro a b
    have h2' := of_decide_eq_true h2
    rw [if_pos ⟨a, b⟩] at h2'
    unfold Sf20Neutral.nats
    rw [List.length_map]
    exact h2'
end Sg
/-! ### the walk: a Mapping -/
namespace Sg
open PySem PySem.Spec PyProof.Rows L2
abbrev sInit : Stmt := inClass (top 6) 0
abbrev sMay : Stmt := inClass (top 6) 1
abbrev sNext : Stmt := inClass (top 6) 2
abbrev sCount : Stmt := inClass (top 6) 3
abbrev sFirst : Stmt := inClass (top 6) 4
/-- what the top has written of the class -/
structure Txt (K : PySem.W.Frag) (C : Addr) : Prop where
  cl : Cls K C
  nA : NoAttr K C "a"
  nX : NoAttr K C "a_colours"
  nB : NoAttr K C "b"
  nY : NoAttr K C "b_colours"
  nE : NoAttr K C "exact"
def mF (a ac b bc : Addr) (ex : Bool) : List (Str × V) := [("a", .ref a), ("a_colours", .ref ac), ("b", .ref b), ("b_colours", .ref bc), ("exact", .bl ex)]
theorem lk_here {k : Str} {v : V} {r : List (Str × V)} : List.lookup k ((k, v) :: r) = some v := by
  have e : (k == k) = true := beq_self_eq_true k
  simp only [List.lookup, e]
theorem lk_past {k g : Str} {v : V} {r : List (Str × V)} (h : (k == g) = false) : List.lookup k ((g, v) :: r) = List.lookup k r := by
  simp only [List.lookup, h]
theorem put_past {f g : Str} {v x : V} {r : List (Str × V)} (h : ¬ g = f) : putF f v ((g, x) :: r) = (g, x) :: putF f v r := if_neg h
section
variable {a ac b bc : Addr} {ex : Bool}
theorem mF_a : (mF a ac b bc ex).lookup ("a" : Str) = some (.ref a) := lk_here
theorem mF_x : (mF a ac b bc ex).lookup ("a_colours" : Str) = some (.ref ac) := (lk_past (by decide +kernel)).trans lk_here
theorem mF_b : (mF a ac b bc ex).lookup ("b" : Str) = some (.ref b) := (lk_past (by decide +kernel)).trans ((lk_past (by decide +kernel)).trans lk_here)
theorem mF_y : (mF a ac b bc ex).lookup ("b_colours" : Str) = some (.ref bc) := (lk_past (by decide +kernel)).trans ((lk_past (by decide +kernel)).trans ((lk_past (by decide +kernel)).trans lk_here))
theorem mF_e : (mF a ac b bc ex).lookup ("exact" : Str) = some (.bl ex) := (lk_past (by decide +kernel)).trans ((lk_past (by decide +kernel)).trans ((lk_past (by decide +kernel)).trans ((lk_past (by decide +kernel)).trans lk_here)))
theorem mF_none {m : Str} (h1 : (m == ("a" : Str)) = false) (h2 : (m == ("a_colours" : Str)) = false) (h3 : (m == ("b" : Str)) = false) (h4 : (m == ("b_colours" : Str)) = false) (h5 : (m == ("exact" : Str)) = false) : (mF a ac b bc ex).lookup m = none :=
  (lk_past h1).trans ((lk_past h2).trans ((lk_past h3).trans ((lk_past h4).trans ((lk_past h5).trans rfl))))
theorem mF_new : putF "exact" (.bl ex) (putF "b_colours" (.ref bc) (putF "b" (.ref b) (putF "a_colours" (.ref ac) (putF "a" (.ref a) [])))) = mF a ac b bc ex := by
  have e1 : putF "a" (.ref a) [] = ([("a", .ref a)] : List (Str × V)) := rfl
  have e2 : putF "a_colours" (.ref ac) ([("a", .ref a)] : List (Str × V)) = ([("a", .ref a), ("a_colours", .ref ac)] : List (Str × V)) := (put_past (by decide +kernel)).trans rfl
  have e3 : putF "b" (.ref b) ([("a", .ref a), ("a_colours", .ref ac)] : List (Str × V)) = ([("a", .ref a), ("a_colours", .ref ac), ("b", .ref b)] : List (Str × V)) := (put_past (by decide +kernel)).trans (congrArg _ ((put_past (by decide +kernel)).trans rfl))
  have e4 : putF "b_colours" (.ref bc) ([("a", .ref a), ("a_colours", .ref ac), ("b", .ref b)] : List (Str × V)) = ([("a", .ref a), ("a_colours", .ref ac), ("b", .ref b), ("b_colours", .ref bc)] : List (Str × V)) :=
    (put_past (by decide +kernel)).trans (congrArg _ ((put_past (by decide +kernel)).trans (congrArg _ ((put_past (by decide +kernel)).trans rfl))))
  have e5 : putF "exact" (.bl ex) ([("a", .ref a), ("a_colours", .ref ac), ("b", .ref b), ("b_colours", .ref bc)] : List (Str × V)) = mF a ac b bc ex :=
    (put_past (by decide +kernel)).trans (congrArg _ ((put_past (by decide +kernel)).trans (congrArg _ ((put_past (by decide +kernel)).trans (congrArg _ ((put_past (by decide +kernel)).trans rfl))))))
  rw [e1, e2, e3, e4, e5]
end
/-- a mapping: the two graphs, their colours, exact -/
structure Two where
  A : List Nat
  X : List Nat
  B : List Nat
  Y : List Nat
  ex : Bool
def Two.step (t : Two) : List Nat → Nat → Bool := stepX t.ex t.A t.B t.X t.Y
def MapAt (K : PySem.W.Frag) (C : Addr) (H : Hp) (m : Addr) (t : Two) : Prop := ∃ dx a ac b bc, H m = some (.ins C dx (mF a ac b bc t.ex)) ∧ SqL K H a (vs t.A) ∧ SqL K H ac (vs t.X) ∧ SqL K H b (vs t.B) ∧ SqL K H bc (vs t.Y)
theorem MapAt.same {K : PySem.W.Frag} {C : Addr} {H H' : Hp} {m : Addr} {t : Two} (h : MapAt K C H m t) (s : Same H H') : MapAt K C H' m t := by
  obtain ⟨dx, a, ac, b, bc, h0, h1, h2, h3, h4⟩ := h
  exact ⟨dx, a, ac, b, bc, s _ _ h0, s.seq h1, s.seq h2, s.seq h3, s.seq h4⟩
/-- sizes that fit -/
structure Two.Fit (t : Two) : Prop where
  x : t.X.length = t.A.length
  y : t.Y.length = t.B.length
  a16 : t.A.length ≤ 16
  b16 : t.B.length ≤ 16
def spInit (C : Addr) : Sp := fun xs H Q _ => ∃ (p dx a ac b bc : Addr) (ex : Bool), xs = [.ref p, .ref a, .ref ac, .ref b, .ref bc, .bl ex] ∧ H p = some (.ins C dx []) ∧
  ∀ H' : Hp, H' p = some (.ins C dx (mF a ac b bc ex)) → (∀ b o, H b = some o → b ≠ p → H' b = some o) → Q .non H'
def spMay (K : PySem.W.Frag) (C : Addr) : Sp := fun xs H Q _ => ∃ (m t : Addr) (w : Two) (l : List Nat) (z : Nat), xs = [.ref m, .ref t, vn z] ∧ MapAt K C H m w ∧ w.Fit ∧ SqL K H t (vs l) ∧ l.length < w.A.length ∧ z < w.B.length ∧
  ∀ H', Same H H' → Q (.bl (!l.contains z && w.step l z)) H'
def spNext (K : PySem.W.Frag) (C : Addr) : Sp := fun xs H Q _ => ∃ (m t : Addr) (w : Two) (l : List Nat), xs = [.ref m, .ref t] ∧ MapAt K C H m w ∧ w.Fit ∧ SqL K H t (vs l) ∧ l.length < w.A.length ∧
  ∀ p H', Same H H' → H' p = some (.lst (vs (nexts w.step w.B.length l))) → Q (.ref p) H'
theorem scInit : FnScope ["self", "a", "a_colours", "b", "b_colours", "exact"] ["self", "a", "a_colours", "b", "b_colours", "exact"] (defScope sInit) := ⟨rfl, rfl, rfl, by decide +kernel, rfl, by decide +kernel, by decide +kernel⟩
theorem scMay : FnScope ["self", "taken", "node", "following", "i", "other", "joined_in_a", "joined_in_b"] ["self", "taken", "node"] (defScope sMay) := ⟨rfl, rfl, rfl, by decide +kernel, rfl, by decide +kernel, by decide +kernel⟩
theorem scNext : FnScope ["self", "taken", "node"] ["self", "taken"] (defScope sNext) := ⟨rfl, rfl, rfl, by decide +kernel, rfl, by decide +kernel, by decide +kernel⟩
theorem inV_vs (z : Nat) : ∀ l : List Nat, inV (vn z) (vs l) = l.contains z
  | [] => rfl
  | a :: l => by
    have ih := inV_vs z l
    have e : eqV (vn a) (vn z) = (z == a) := by
      show ((a : Int) == (z : Int)) = (z == a)
      by_cases c : a = z
      · subst c; simp
      · rw [beq_eq_false_iff_ne.mpr (fun w => c w.symm), beq_eq_false_iff_ne.mpr (by omega : (a : Int) ≠ (z : Int))]
    show (eqV (vn a) (vn z) || inV (vn z) (vs l)) = (a :: l).contains z
    rw [ih, e, List.contains_cons]
section
variable {P : Program} {w : World} {K : PySem.W.Frag} {mg : Str → Option Value} {base : Heap} {C : Addr}
theorem ok_init {f : Addr} {fd : FuncData} (F : Fun K "__init__" "Mapping.__init__" sInit f fd) (T : Txt K C) : FnOk P w K mg base CX0 1 f fd ["self", "a", "a_colours", "b", "b_colours", "exact"] (spInit C) := by
  refine F.ok scInit (fun xs H Q E h => ?_) (fun cdv A outer s H xs Q E hr h => ?_)
  · obtain ⟨p, dx, a, ac, b, bc, ex, rfl, _⟩ := h
    rfl
  obtain ⟨p, dx, a, ac, b, bc, ex, rfl, hp, k⟩ := h
  refine ⟨_, pss_cons (ps_fld (pv 0) (pv 1) rfl) (pss_cons (ps_fld (pv 0) (pv 2) rfl) (pss_cons (ps_fld (pv 0) (pv 3) rfl) (pss_cons (ps_fld (pv 0) (pv 4) rfl) (pss_one (ps_fld (pv 0) (pv 5) rfl))))), ?_⟩
  refine ⟨_, rfl, _, rfl, p, C, dx, [], rfl, hp, T.cl, T.nA, (by show 0 < 1000; decide), ?_⟩
  refine ⟨_, rfl, _, rfl, p, C, dx, _, rfl, upd_same, T.cl, T.nX, (by show 1 < 1000; decide), ?_⟩
  refine ⟨_, rfl, _, rfl, p, C, dx, _, rfl, upd_same, T.cl, T.nB, (by show 2 < 1000; decide), ?_⟩
  refine ⟨_, rfl, _, rfl, p, C, dx, _, rfl, upd_same, T.cl, T.nY, (by show 3 < 1000; decide), ?_⟩
  refine ⟨_, rfl, _, rfl, p, C, dx, _, rfl, upd_same, T.cl, T.nE, (by show 4 < 1000; decide), ?_⟩
  exact k _ (Eq.trans upd_same (congrArg (fun q => some (HO.ins C dx q)) mF_new)) fun b o e hb => by
    rw [upd_ne hb, upd_ne hb, upd_ne hb, upd_ne hb, upd_ne hb]
    exact e
theorem ok_may {f fA : Addr} {fd fdA : FuncData} {k : Nat} (F : Fun K "may_go" "Mapping.may_go" sMay f fd) (T : Txt K C) (FA : Fun K "are_joined" "are_joined" sAre fA fdA) (bA : Binds K fdA ["rows", "i", "j"] []) (mA : mg "are_joined" = some (.ref fA))
    (ml : mg "len" = none) (me : mg "enumerate" = none) : FnOk P w K mg base CX0 (k + 2) f fd ["self", "taken", "node"] (spMay K C) := by
  have GA : FnOk P w K mg base CX0 (k + 1) fA fdA ["rows", "i", "j"] (spAre K) := (ok_are FA).mono (by omega)
  refine F.ok scMay (fun xs H Q E h => ?_) (fun cdv A outer s H xs Q E hr h => ?_)
  · obtain ⟨m, t, w', l, z, rfl, _⟩ := h
    rfl
  obtain ⟨m, t, w', l, z, rfl, hM, fit, hT, hl, hz, q⟩ := h
  refine ⟨_, pss_cons (ps_set (i := 3) scMay.nd rfl (.inl rfl) (pe_callB call_len_seq rfl ml PySem.boot_len (pa_cons (pv 1) pa_nil)))
    (pss_cons (ps_if (PW.pt (pw_or (pt_cmpR op_in_seq (pv 2) (pv 1) (by rfl)) (pw_or1 (pt_cmpR op_ne (pe_ix ix_list (pe_fld (pv 0) rfl) (pv 3) (fun _ _ => rfl)) (pe_ix ix_list (pe_fld (pv 0) rfl) (pv 2) (fun _ _ => rfl)) (nomark _))))) (pss_one (ps_ret pe_bl)) pss_nil)
    (pss_cons (ps_for PassesOwn.never rfl (pi_enum (by rfl) me (pa_cons (pv 1) pa_nil)) (pg_tup rfl (pgs_cons (pg_name (i := 4) scMay.nd rfl (.inl rfl)) (pgs_cons (pg_name (i := 5) scMay.nd rfl (.inl rfl)) pgs_nil)))
      (pss_cons (ps_set (i := 6) scMay.nd rfl (.inl rfl) (pe_call GA hr rfl mA FA.kp bA .nil pass0 (pa_cons (pe_fld (pv 0) rfl) (pa_cons (pv 3) (pa_cons (pv 4) pa_nil)))))
      (pss_cons (ps_set (i := 7) scMay.nd rfl (.inl rfl) (pe_call GA hr rfl mA FA.kp bA .nil pass0 (pa_cons (pe_fld (pv 0) rfl) (pa_cons (pv 2) (pa_cons (pv 5) pa_nil)))))
      (pss_cons (ps_if (PW.pt (pw_and (pt_val (pv 6)) (pw_and1 (pt_not (pt_val (pv 7)))))) (pss_one (ps_ret pe_bl)) pss_nil)
      (pss_one (ps_if (PW.pt (pw_and (pt_val (pe_fld (pv 0) rfl)) (pw_and (pt_val (pv 7)) (pw_and1 (pt_not (pt_val (pv 6))))))) (pss_one (ps_ret pe_bl)) pss_nil))))))
    (pss_one (ps_ret pe_bl)))), ?_⟩
  have hM0 := hM
  obtain ⟨dx, a, ac, b, bc, h0, hA, hX, hB, hY⟩ := hM0
  have bad : ∀ H', Same H H' → (!l.contains z && w'.step l z) = false → Q (.bl false) H' := fun H' sm e => by have y := q H' sm; rw [e] at y; exact y
  refine ⟨_, rfl, t, _, rfl, .inl hT, ?_⟩
  rw [vs_len]
  refine ⟨_, rfl, _, rfl, t, _, rfl, .inl hT, rfl, vs_flat l, _, rfl, ?_⟩
  rw [inV_vs]
  refine ite2 (fun c => ?_) (fun c => ?_)
  · have c' : l.contains z = true := c
    refine iteT (bad H (Same.refl H) ?_)
    rw [c']; rfl
  have c' : l.contains z = false := Bool.eq_false_iff.mpr c
  refine ⟨_, rfl, m, C, dx, _, _, rfl, h0, T.cl, T.nX, mF_x, _, rfl, ac, _, _, _, rfl, rfl, hX, vs_at (by rw [fit.x]; exact hl), ?_⟩
  refine ⟨_, rfl, m, C, dx, _, _, rfl, h0, T.cl, T.nY, mF_y, _, rfl, bc, _, _, _, rfl, rfl, hY, vs_at (by rw [fit.y]; exact hz), rfl, _, rfl, ?_⟩
  rw [vn_eq]
  refine ite2 (fun d => ?_) (fun d => ?_)
  · have d' := bang_t d
    refine bad H (Same.refl H) ?_
    unfold Two.step stepX
    rw [d', Bool.false_and, Bool.and_false]
  have d' := bang_f d
  -- for i, other in enumerate(taken)
  refine ⟨_, rfl, t, _, rfl, hT, for_enum (K := K) (a := t) (xs := vs l) (fun i σ H' => ∃ v4 v5 v6 v7 : Option V, σ = [some (.ref m), some (.ref t), some (vn z), some (vn l.length), v4, v5, v6, v7] ∧ Same H H' ∧
    ∀ i', i' < i → ((!Sf20.joined w'.A l.length i' || Sf20.joined w'.B z (l.getD i' 0)) && (!w'.ex || !Sf20.joined w'.B z (l.getD i' 0) || Sf20.joined w'.A l.length i')) = true)
    ⟨none, none, none, none, rfl, Same.refl H, fun i' h => absurd h (Nat.not_lt_zero _)⟩ (fun i σ H' _ ⟨_, _, _, _, _, sm, _⟩ => sm.seq hT) ?_ ?_⟩
  · rintro i x Tp σ H' hx ⟨v4, v5, v6, v7, rfl, sm, inv⟩ hTp
    obtain ⟨o, ho, rfl⟩ := vs_get hx
    have hil : i < l.length := lt_of_get ho
    have sT : Same H (upd H' Tp (.tup [vn i, vn o])) := sm.trans (same_upd hTp)
    have hgo := getD_of ho
    have fail : ((!Sf20.joined w'.A l.length i || Sf20.joined w'.B z o) && (!w'.ex || !Sf20.joined w'.B z o || Sf20.joined w'.A l.length i)) = false → (!l.contains z && w'.step l z) = false := fun e => by
      refine Bool.eq_false_iff.mpr fun y => ?_
      unfold Two.step stepX at y
      rw [Bool.and_eq_true, Bool.and_eq_true, List.all_eq_true] at y
      have y2 := y.2.2 i (List.mem_range.mpr hil)
      rw [hgo, e] at y2
      cases y2
    refine ⟨Tp, _, rfl, SqT.of upd_same, rfl, _, _, rfl, _, _, rfl, rfl, ?_⟩
    refine ⟨_, rfl, m, C, dx, _, _, rfl, sT _ _ h0, T.cl, T.nA, mF_a, _, rfl, _, rfl, a, w'.A, l.length, i, rfl, sT.seq hA, hl, ?_⟩
    refine ⟨_, rfl, m, C, dx, _, _, rfl, sT _ _ h0, T.cl, T.nB, mF_b, _, rfl, _, rfl, b, w'.B, z, o, rfl, sT.seq hB, hz, ?_⟩
    have keep : ((!Sf20.joined w'.A l.length i || Sf20.joined w'.B z o) && (!w'.ex || !Sf20.joined w'.B z o || Sf20.joined w'.A l.length i)) = true → ∀ i', i' < i + 1 → ((!Sf20.joined w'.A l.length i' || Sf20.joined w'.B z (l.getD i' 0)) && (!w'.ex || !Sf20.joined w'.B z (l.getD i' 0) || Sf20.joined w'.A l.length i')) = true := fun e i' h => by
      rcases Nat.lt_or_ge i' i with y | y
      · exact inv i' y
      · have y' : i' = i := by omega
        subst y'
        rw [hgo]
        exact e
    generalize Sf20.joined w'.A l.length i = ja at fail keep
    generalize Sf20.joined w'.B z o = jb at fail keep
    refine ⟨_, rfl, _, rfl, ?_⟩
    cases ja with
    | false =>
      refine iteF (iteF ?_)
      refine ⟨_, rfl, m, C, dx, _, _, rfl, sT _ _ h0, T.cl, T.nE, mF_e, _, rfl, ite2 (fun e1 => ?_) (fun e1 => ?_)⟩
      · refine ⟨_, rfl, _, rfl, ?_⟩
        cases jb with
        | true =>
          refine iteT ⟨_, rfl, _, rfl, ?_⟩
          refine iteT ?_
          exact bad _ sT (fail (by rw [e1]; rfl))
        | false =>
          refine iteF (iteF ?_)
          exact ⟨_, _, _, _, rfl, sT, keep (by rw [e1]; rfl)⟩
      · refine iteF ?_
        exact ⟨_, _, _, _, rfl, sT, keep (by rw [Bool.eq_false_iff.mpr e1]; rfl)⟩
    | true =>
      refine iteT ⟨_, rfl, _, rfl, ?_⟩
      cases jb with
      | false =>
        refine iteT ?_
        exact bad _ sT (fail rfl)
      | true =>
        refine iteF ?_
        refine ⟨_, rfl, m, C, dx, _, _, rfl, sT _ _ h0, T.cl, T.nE, mF_e, _, rfl, ite2 (fun e1 => ?_) (fun e1 => ?_)⟩
        · refine ⟨_, rfl, _, rfl, iteT ⟨_, rfl, _, rfl, ?_⟩⟩
          refine iteF ?_
          exact ⟨_, _, _, _, rfl, sT, keep (by cases w'.ex <;> rfl)⟩
        · refine iteF ?_
          exact ⟨_, _, _, _, rfl, sT, keep (by cases w'.ex <;> rfl)⟩
  · rintro σ H' ⟨v4, v5, v6, v7, rfl, sm, inv⟩
    rw [vs_len] at inv
    have e : (!l.contains z && w'.step l z) = true := by
      unfold Two.step stepX
      rw [c', d', Bool.and_eq_true, Bool.and_eq_true, List.all_eq_true]
      exact ⟨rfl, rfl, fun i hi => inv i (List.mem_range.mp hi)⟩
    have y := q H' sm
    rw [e] at y
    exact y
theorem ok_next {f fM : Addr} {fd fdM : FuncData} {k : Nat} (F : Fun K "next_nodes" "Mapping.next_nodes" sNext f fd) (T : Txt K C) (GM : FnOk P w K mg base CX0 (k + 1) fM fdM ["self", "taken", "node"] (spMay K C)) (bM : Binds K fdM ["self", "taken", "node"] []) (mM : Meth K C "may_go" fM)
    (ml : mg "len" = none) (mr : mg "range" = none) : FnOk P w K mg base CX0 (k + 2) f fd ["self", "taken"] (spNext K C) := by
  refine F.ok scNext (fun xs H Q E h => ?_) (fun cdv A outer s H xs Q E hr h => ?_)
  · obtain ⟨m, t, w', l, rfl, _⟩ := h
    rfl
  obtain ⟨m, t, w', l, rfl, hM, fit, hT, hl, q⟩ := h
  refine ⟨_, pss_one (ps_ret (pe_lc (own := [("node", 2)]) (g := gName 2) rfl scNext.nd (pi_range1 rfl mr (pa_cons (pe_callB call_len_seq rfl ml PySem.boot_len (pa_cons (pe_fld (pv 0) rfl) pa_nil)) pa_nil))
    (blkOk_by (own := [("node", 2)]) (N := ["self", "taken", "node"]) (sc := defScope sNext) (by decide +kernel)) (fun _ _ _ _ _ => pg_name (i := 2) scNext.nd rfl (Or.inl rfl))
    (fun _ _ _ _ _ => pts_one (pt_val (pe_meth (pv 0) T.cl mM GM hr bM .nil pass0 (pa_cons (pv 1) (pa_cons (pv 2) pa_nil))))) (fun _ _ _ _ _ => pv 2))), ?_⟩
  have hM0 := hM
  obtain ⟨dx, a, ac, b, bc, h0, hA, hX, hB, hY⟩ := hM0
  refine ⟨_, rfl, m, C, dx, _, _, rfl, h0, T.cl, T.nB, mF_b, b, _, rfl, .inl hB, ?_⟩
  have b16 := fit.b16
  rw [vs_len]
  refine ⟨(w'.B.length : Int), rfl, by omega, by omega, fun D hD => ?_⟩
  refine lc_range (lo := 0) (n := (w'.B.length : Int).toNat) (fun i H' => Same H H' ∧ H' D = some (.lst (vs ((List.range i).filter fun x => !l.contains x && w'.step l x)))) ⟨same_upd hD, upd_same⟩ ?_ ?_
  · rintro i H' hi ⟨sm, hd⟩
    have ei : (V.int (0 + (i : Int))) = vn i := by unfold vn; rw [Int.zero_add]
    rw [ei]
    refine ⟨rfl, _, rfl, m, dx, _, rfl, sm _ _ h0, mF_none (by decide +kernel) (by decide +kernel) (by decide +kernel) (by decide +kernel) (by decide +kernel), _, rfl, _, rfl, m, t, w', l, i, rfl, hM.same sm, fit, sm.seq hT, hl, by omega, fun H2 s2 => ⟨_, rfl, ?_⟩⟩
    have hd2 := s2 _ _ hd
    have smA := sm.trans s2
    have next : ∀ c : Bool, (!l.contains i && w'.step l i) = c → vs ((List.range (i + 1)).filter fun x => !l.contains x && w'.step l x) = vs ((List.range i).filter fun x => !l.contains x && w'.step l x) ++ (if c = true then [vn i] else []) := fun c ec => by
      rw [List.range_succ, List.filter_append, List.filter_cons, List.filter_nil, ec]
      cases c with
      | true => rw [if_pos rfl, if_pos rfl, vs_snoc]
      | false => rw [if_neg Bool.false_ne_true, if_neg Bool.false_ne_true, List.append_nil, List.append_nil]
    refine ite2 (fun c => ?_) (fun c => ?_)
    · refine ⟨_, rfl, _, hd2, ?_, fun b' o h => ?_, ?_⟩
      · rw [vs_len]
        have y : ((List.range i).filter fun x => !l.contains x && w'.step l x).length ≤ (List.range i).length := List.length_filter_le _ _
        rw [List.length_range] at y
        exact small (by omega)
      · rw [upd_ne (ne_of_none h hD)]
        exact smA b' o h
      · rw [upd_same, next true c, if_pos rfl]
    · refine ⟨smA, ?_⟩
      rw [next false (Bool.eq_false_iff.mpr c), if_neg Bool.false_ne_true, List.append_nil]
      exact hd2
  · rintro H' ⟨sm, hd⟩
    rw [Int.toNat_natCast] at hd
    exact q D H' sm hd
end
end Sg
/-! ### the walk: first_way, same -/
namespace Sg
open PySem PySem.Spec PyProof.Rows L2
abbrev sMain : Stmt := top 9
/-- None, or a list -/
def found (H : Hp) (v : V) : Option (List Nat) → Prop
  | none => v = .non
  | some x => ∃ p, v = .ref p ∧ H p = some (.lst (vs x))
def spFirst (K : PySem.W.Frag) (C : Addr) (n : Nat) : Sp := fun xs H Q _ => ∃ (m t : Addr) (w : Two) (l : List Nat) (f : Nat), xs = [.ref m, .ref t] ∧ MapAt K C H m w ∧ w.Fit ∧ H t = some (.lst (vs l)) ∧ l.length + f = w.A.length ∧ f < n ∧
  ∀ v H', Same H H' → found H' v (ways w.step w.B.length f l).head? → Q v H'
def spMain (K : PySem.W.Frag) : Sp := fun xs H Q _ => ∃ (a ac b bc : Addr) (g x g2 y : List Nat) (n : Int), xs = [.int n, .ref a, .ref ac, .ref b, .ref bc] ∧ SqL K H a (vs g) ∧ SqL K H ac (vs x) ∧ SqL K H b (vs g2) ∧ SqL K H bc (vs y) ∧
  (1 ≤ n → n ≤ 16 → (g.length : Int) = n) ∧ (1 ≤ n → n ≤ 16 → (x.length : Int) = n) ∧ (1 ≤ n → n ≤ 16 → (g2.length : Int) = n) ∧ (1 ≤ n → n ≤ 16 → (y.length : Int) = n) ∧
  ∀ p H', H' p = some (.lst ((ans (Sf20.does (.same n g x g2 y))).map V.int)) → Q (.ref p) H'
theorem scFirst : FnScope ["self", "taken", "node", "found"] ["self", "taken"] (defScope sFirst) := ⟨rfl, rfl, rfl, by decide +kernel, rfl, by decide +kernel, by decide +kernel⟩
theorem scMain : FnScope ["n", "a", "a_colours", "b", "b_colours", "found"] ["n", "a", "a_colours", "b", "b_colours"] (defScope sMain) := ⟨rfl, rfl, rfl, by decide +kernel, rfl, by decide +kernel, by decide +kernel⟩
theorem ways_len (step : List Nat → Nat → Bool) (n : Nat) : ∀ (f : Nat) (l m : List Nat), m ∈ ways step n f l → m.length = l.length + f
  | 0, l, m, h => by rw [List.mem_singleton.mp h]; rfl
  | f + 1, l, m, h => by
    obtain ⟨x, _, hx⟩ := List.mem_flatMap.mp h
    have z := ways_len step n f (l ++ [x]) m hx
    rw [List.length_append, List.length_singleton] at z
    omega
theorem find_none {α β : Type} {h : α → Option β} {L : List α} {i : Nat} {z : α} (e : (L.take i).findSome? h = none) (hz : L[i]? = some z) (e2 : h z = none) : (L.take (i + 1)).findSome? h = none := by
  rw [take_more hz, List.findSome?_append, e, Option.none_or, List.findSome?_cons, e2]; rfl
theorem find_some {α β : Type} {h : α → Option β} {L : List α} {i : Nat} {z : α} {x : β} (e : (L.take i).findSome? h = none) (hz : L[i]? = some z) (e2 : h z = some x) : L.findSome? h = some x := by
  have e3 : L = L.take (i + 1) ++ L.drop (i + 1) := (List.take_append_drop _ _).symm
  rw [e3, List.findSome?_append, take_more hz, List.findSome?_append, e, Option.none_or, List.findSome?_cons, e2]
  rfl
section
variable {P : Program} {w : World} {K : PySem.W.Frag} {mg : Str → Option Value} {base : Heap} {C : Addr}
theorem ok_first {f fN : Addr} {fd fdN : FuncData} {n : Nat} (F : Fun K "first_way" "Mapping.first_way" sFirst f fd) (T : Txt K C) (GN : FnOk P w K mg base CX0 (n + 3) fN fdN ["self", "taken"] (spNext K C)) (bN : Binds K fdN ["self", "taken"] []) (mN : Meth K C "next_nodes" fN)
    (G : FnOk P w K mg base CX0 (n + 3) f fd ["self", "taken"] (spFirst K C n)) (bF : Binds K fd ["self", "taken"] []) (mF' : Meth K C "first_way" f) (ml : mg "len" = none) :
    FnOk P w K mg base CX0 (n + 4) f fd ["self", "taken"] (spFirst K C (n + 1)) := by
  refine F.ok scFirst (fun xs H Q E h => ?_) (fun cdv A outer s H xs Q E hr h => ?_)
  · obtain ⟨m, t, w', l, f', rfl, _⟩ := h
    rfl
  obtain ⟨m, t, w', l, f', rfl, hM, fit, hT, hf, hfn, q⟩ := h
  refine ⟨_, pss_cons (ps_if (pt_cmpR op_eq (pe_callB call_len_seq rfl ml PySem.boot_len (pa_cons (pv 1) pa_nil)) (pe_callB call_len_seq rfl ml PySem.boot_len (pa_cons (pe_fld (pv 0) rfl) pa_nil)) (nomark _)) (pss_one (ps_ret (pv 1))) pss_nil)
    (pss_cons (ps_for PassesOwn.never rfl (pi_list (pe_meth (pv 0) T.cl mN GN hr bN .nil pass0 (pa_cons (pv 1) pa_nil))) (pg_name (i := 2) scFirst.nd rfl (.inl rfl))
      (pss_cons (ps_set (i := 3) scFirst.nd rfl (.inl rfl) (pe_meth (pv 0) T.cl mF' G hr bF .nil pass0 (pa_cons (pe_op op_cat (pv 1) (pe_lst (pa_cons (pv 2) pa_nil))) pa_nil)))
      (pss_one (ps_if (pt_cmp (pc_notN (pv 3))) (pss_one (ps_ret (pv 3))) pss_nil))))
    (pss_one (ps_ret pe_non))), ?_⟩
  have hM0 := hM
  obtain ⟨dx, a, ac, b, bc, h0, hA, hX, hB, hY⟩ := hM0
  have a16 := fit.a16
  have b16 := fit.b16
  refine ⟨_, rfl, t, _, rfl, .inl (SqL.of hT), ?_⟩
  rw [vs_len]
  refine ⟨_, rfl, m, C, dx, _, _, rfl, h0, T.cl, T.nA, mF_a, a, _, rfl, .inl hA, rfl, ?_⟩
  rw [vs_len]
  refine ⟨_, rfl, ?_⟩
  have e0 : decide (V.int (l.length : Int) = V.int (w'.A.length : Int)) = (l.length == w'.A.length) := vn_eq _ _
  rw [e0]
  refine ite2 (fun cc => ?_) (fun cc => ?_)
  · have cc' : l.length = w'.A.length := eq_of_beq cc
    have ef : f' = 0 := by omega
    subst ef
    exact ⟨_, rfl, q _ H (Same.refl H) ⟨t, rfl, hT⟩⟩
  have cc' : l.length ≠ w'.A.length := fun z => cc (beq_iff_eq.mpr z)
  obtain ⟨f2, rfl⟩ : ∃ f2, f' = f2 + 1 := ⟨f' - 1, by omega⟩
  have eh : (ways w'.step w'.B.length (f2 + 1) l).head? = (nexts w'.step w'.B.length l).findSome? fun x => (ways w'.step w'.B.length f2 (l ++ [x])).head? := head_flat
  rw [eh] at q
  refine ⟨_, rfl, m, dx, _, rfl, h0, mF_none (by decide +kernel) (by decide +kernel) (by decide +kernel) (by decide +kernel) (by decide +kernel), _, rfl, m, t, w', l, rfl, hM, fit, SqL.of hT, by omega, fun p H1 s1 hp => ?_⟩
  generalize nexts w'.step w'.B.length l = nx at hp q
  refine ⟨p, rfl, ⟨_, SqL.of hp⟩, for_list (K := K) (a := p) (xs := vs nx) (fun i σ H' => ∃ v2 v3 : Option V, σ = [some (.ref m), some (.ref t), v2, v3] ∧ Same H1 H' ∧ ((nx.take i).findSome? fun x => (ways w'.step w'.B.length f2 (l ++ [x])).head?) = none)
    ⟨none, none, rfl, Same.refl H1, rfl⟩ (fun i σ H' _ ⟨_, _, _, sm, _⟩ => SqL.of (sm _ _ hp)) ?_ ?_⟩
  · rintro i x σ H' hx ⟨v2, v3, rfl, sm, inv⟩
    obtain ⟨z, hz, rfl⟩ := vs_get hx
    have smA : Same H H' := s1.trans sm
    refine ⟨_, rfl, m, dx, _, rfl, smA _ _ h0, mF_none (by decide +kernel) (by decide +kernel) (by decide +kernel) (by decide +kernel) (by decide +kernel), _, rfl, _, rfl, by show 1 ≤ sizeLine; decide, fun u hu => ?_⟩
    have s2 : Same H' (upd H' u (.lst [vn z])) := same_upd hu
    refine ⟨t, u, _, _, rfl, rfl, s2 _ _ (smA _ _ hT), upd_same, ?_, fun r hr' => ?_⟩
    · rw [vs_len]
      exact Nat.le_of_lt (small (by show l.length + 1 ≤ 16000000; omega))
    have s3 := s2.trans (same_upd (o := .lst (vs l ++ [vn z])) hr')
    refine ⟨m, r, w', l ++ [z], f2, rfl, hM.same (smA.trans s3), fit, ?_, ?_, by omega, fun v H3 s4 hv => ?_⟩
    · rw [vs_snoc]
      exact upd_same
    · rw [List.length_append, List.length_singleton]; omega
    have s5 := s3.trans s4
    refine ⟨_, rfl, _, rfl, ?_⟩
    cases e : (ways w'.step w'.B.length f2 (l ++ [z])).head? with
    | none =>
      rw [e] at hv
      cases (show v = V.non from hv)
      exact ⟨_, _, rfl, sm.trans s5, find_none inv hz e⟩
    | some y =>
      rw [e] at hv
      obtain ⟨p3, rfl, hp3⟩ := hv
      refine ⟨_, rfl, q _ _ (smA.trans s5) ?_⟩
      rw [find_some (h := fun x => (ways w'.step w'.B.length f2 (l ++ [x])).head?) inv hz e]
      exact ⟨p3, rfl, hp3⟩
  · rintro σ H' ⟨v2, v3, rfl, sm, inv⟩
    rw [vs_len, List.take_length] at inv
    refine q _ _ (s1.trans sm) ?_
    rw [inv]
    rfl
theorem first_none {f : Addr} {fd : FuncData} {k : Nat} : FnOk P w K mg base CX0 k f fd ["self", "taken"] (spFirst K C 0) := by
  have no : ∀ xs H Q E, ¬ spFirst K C 0 xs H Q E := fun xs H Q E h => by
    obtain ⟨m, t, w', l, f, _, _, _, _, _, z, _⟩ := h
    omega
  exact ⟨fun xs H Q E h => absurd h (no xs H Q E), fun A outer s H args us xs Q E _ _ _ _ h => absurd h (no xs H Q E)⟩
theorem all_first {f fN : Addr} {fd fdN : FuncData} (F : Fun K "first_way" "Mapping.first_way" sFirst f fd) (T : Txt K C) (GN : FnOk P w K mg base CX0 3 fN fdN ["self", "taken"] (spNext K C)) (bN : Binds K fdN ["self", "taken"] []) (mN : Meth K C "next_nodes" fN)
    (bF : Binds K fd ["self", "taken"] []) (mF' : Meth K C "first_way" f) (ml : mg "len" = none) : ∀ n : Nat, FnOk P w K mg base CX0 (n + 3) f fd ["self", "taken"] (spFirst K C n)
  | 0 => first_none
  | n + 1 => ok_first F T (GN.mono (by omega)) bN mN (all_first F T GN bN mN bF mF' ml n) bF mF' ml
theorem ok_main {f fI fM fC : Addr} {fd fdI fdM fdC : FuncData} {k : Nat} {tR : Tok} (F : Fun K "same" "same" sMain f fd) (T : Txt K C) (GI : FnOk P w K mg base CX0 (k + 3) fI fdI ["n", "rows"] (spIsg K)) (bI : Binds K fdI ["n", "rows"] []) (kI : PySem.W.keepIn K (.ref fI) = true) (mI : mg "is_graph" = some (.ref fI))
    (M : Mk K C fM) (mC : mg "Mapping" = some (.ref C)) (GM : FnOk P w K mg base CX0 (k + 2) fM fdM ["self", "a", "a_colours", "b", "b_colours", "exact"] (spInit C)) (bM : Binds K fdM ["self", "a", "a_colours", "b", "b_colours", "exact"] [])
    (GC : FnOk P w K mg base CX0 (k + 3) fC fdC ["self", "taken"] (spFirst K C 17)) (bC : Binds K fdC ["self", "taken"] []) (mC' : Meth K C "first_way" fC)
    (mR : mg "REFUSED" = some (.int (-1) tR)) : FnOk P w K mg base CX0 (k + 4) f fd ["n", "a", "a_colours", "b", "b_colours"] (spMain K) := by
  refine F.ok scMain (fun xs H Q E h => ?_) (fun cdv A outer s H xs Q E hr h => ?_)
  · obtain ⟨a, ac, b, bc, g, x, g2, y, n, rfl, _⟩ := h
    rfl
  obtain ⟨a, ac, b, bc, g, x, g2, y, n, rfl, hA, hX, hB, hY, ng, nx, ng2, ny, q⟩ := h
  refine ⟨_, pss_cons (ps_if (PW.pt (pw_or (pt_not (pt_val (pe_call GI hr rfl mI kI bI .nil pass0 (pa_cons (pv 0) (pa_cons (pv 1) pa_nil))))) (pw_or1 (pt_not (pt_val (pe_call GI hr rfl mI kI bI .nil pass0 (pa_cons (pv 0) (pa_cons (pv 3) pa_nil))))))))
      (pss_one (ps_ret (pe_lst (pa_cons (pe_glob (v := .int (-1)) rfl mR ⟨_, rfl⟩) pa_nil)))) pss_nil)
    (pss_cons (ps_set (i := 5) scMain.nd rfl (.inl rfl) (pe_meth (pe_make M GM hr rfl mC bM .nil pass0 (pa_cons (pv 1) (pa_cons (pv 2) (pa_cons (pv 3) (pa_cons (pv 4) (pa_cons pe_bl pa_nil)))))) T.cl mC' GC hr bC .nil pass0 (pa_cons (pe_lst pa_nil) pa_nil)))
    (pss_one (ps_ret (pe_ifExp (pt_cmp (pc_isN (pv 5))) (pe_lst (pa_cons pe_int pa_nil)) (pe_op op_cat (pe_lst (pa_cons pe_int pa_nil)) (pv 5)))))), ?_⟩
  have bad : (Sf20.count n && (Sf20.good g && Sf20.good g2)) = false → ∀ p' H', H' p' = some (.lst [.int (-1)]) → Q (.ref p') H' := fun e p' H' h => by
    refine q p' H' ?_
    have e2 : Sf20.does (.same n g x g2 y) = Sf20.ok (-1) := if_pos e
    rw [h, e2]; rfl
  refine ⟨_, rfl, _, rfl, a, g, n, rfl, hA, ng, _, rfl, ite2 (fun c => ?_) (fun c => ?_)⟩
  · have c' := bang_t c
    refine iteT ⟨by show 1 ≤ sizeLine; decide, fun r hr' => bad ?_ r _ upd_same⟩
    rw [← Bool.and_assoc, c', Bool.false_and]
  have c1 := bang_f c
  refine ⟨_, rfl, _, rfl, b, g2, n, rfl, hB, ng2, _, rfl, ite2 (fun c => ?_) (fun c => ?_)⟩
  · have c' := bang_t c
    refine ⟨by show 1 ≤ sizeLine; decide, fun r hr' => bad ?_ r _ upd_same⟩
    rw [Bool.and_left_comm, c', Bool.and_false]
  have c2 := bang_f c
  obtain ⟨nc, kg⟩ := Bool.and_eq_true_iff.mp c1
  obtain ⟨_, kg2⟩ := Bool.and_eq_true_iff.mp c2
  obtain ⟨g1, g16⟩ := good_len kg
  have nc' := nc
  unfold Sf20.count at nc
  rw [Bool.and_eq_true] at nc
  have n1 : 1 ≤ n := of_decide_eq_true nc.1
  have n16 : n ≤ 16 := of_decide_eq_true nc.2
  have l1 := ng n1 n16
  have l2 := nx n1 n16
  have l3 := ng2 n1 n16
  have l4 := ny n1 n16
  have e : Sf20.does (.same n g x g2 y) = (match Sf20.wayOf g g2 x y with | some m => ⟨1, m⟩ | none => Sf20.ok 0) := if_neg (by
    rw [nc', kg, kg2]
    exact Bool.noConfusion)
  rw [e, wayOf_is kg kg2 (by omega) x y] at q
  have fit : (⟨g, x, g2, y, true⟩ : Two).Fit := ⟨by show x.length = g.length; omega, by show y.length = g2.length; omega, g16, by show g2.length ≤ 16; omega⟩
  refine ⟨_, rfl, _, rfl, _, rfl, _, rfl, fun o dx no nd ne => ?_⟩
  refine ⟨o, dx, a, ac, b, bc, true, rfl, upd_same, fun H1 h1 kp => ⟨rfl, ?_⟩⟩
  have s1 : Same H H1 := Same.made no nd kp
  refine ⟨o, dx, _, rfl, h1, mF_none (by decide +kernel) (by decide +kernel) (by decide +kernel) (by decide +kernel) (by decide +kernel), Nat.zero_le _, fun r hr' => ?_⟩
  have s2 : Same H1 (upd H1 r (.lst [])) := same_upd hr'
  have s3 := s1.trans s2
  refine ⟨o, r, ⟨g, x, g2, y, true⟩, [], g.length, rfl, ⟨dx, a, ac, b, bc, s2 _ _ h1, s3.seq hA, s3.seq hX, s3.seq hB, s3.seq hY⟩, fit, upd_same, by simp, by omega, fun v H3 s4 hv => ?_⟩
  refine ⟨_, rfl, _, rfl, ?_⟩
  have hv2 : found H3 v (ways (stepX true g g2 x y) g2.length g.length []).head? := hv
  cases ew : (ways (stepX true g g2 x y) g2.length g.length []).head? with
  | none =>
    rw [ew] at hv2 q
    cases (show v = V.non from hv2)
    refine iteT ⟨by show 1 ≤ sizeLine; decide, fun p hp => q p _ ?_⟩
    rw [upd_same]; rfl
  | some mm =>
    rw [ew] at hv2 q
    obtain ⟨p3, rfl, hp3⟩ := hv2
    have lm : mm.length = g.length := by
      have z := ways_len _ _ _ _ mm (List.mem_of_mem_head? ew)
      rw [z, List.length_nil, Nat.zero_add]
    refine iteF ⟨by show 1 ≤ sizeLine; decide, fun p hp => ?_⟩
    have s5 : Same H3 (upd H3 p (.lst [.int 1])) := same_upd hp
    refine ⟨_, rfl, p, p3, _, _, rfl, rfl, upd_same, s5 _ _ hp3, ?_, fun r2 hr2 => q r2 _ ?_⟩
    · rw [vs_len, lm]
      exact Nat.le_of_lt (small (by show 1 + g.length ≤ 16000000; omega))
    · have ea : (ans ⟨1, mm⟩).map V.int = vs (1 :: mm) := ans_vs 1 mm
      rw [upd_same]
      exact congrArg (fun z => some (HO.lst z)) ea.symm
end
end Sg
/-! ### the end: what the top has left -/
namespace Sg
open PySem PySem.Spec PyProof.Rows L2
theorem all_mk {P : Program} {w : World} {K : PySem.W.Frag} {h : Heap} {mg : Str → Option Value} {fa C f1 f2 f3 f4 f5 f6 f7 : Addr} (X : K.In h) (G : h.Ns mainGlobals mg) (hfa : mg "same" = some (.ref fa))
    {od1 an1 od2 an2 od3 an3 od4 an4 od5 an5 od6 an6 od7 an7 : Option Addr} {sl1 sl2 sl3 sl4 sl5 sl6 sl7 : Array (Option Value)} {oc1 kV1 dc1 pm1 cd1 ct1 oc2 kV2 dc2 pm2 cd2 ct2 oc3 kV3 dc3 pm3 cd3 ct3 oc4 kV4 dc4 pm4 cd4 ct4 oc5 kV5 dc5 pm5 cd5 ct5 oc6 kV6 dc6 pm6 cd6 ct6 oc7 kV7 dc7 pm7 cd7 ct7 : Value}
    {t1 t2 : Tok}
    (a1 : PySem.W.nsIn K mainGlobals "are_joined" = some (some (.ref f1)))
    (l1 : K.lookup f1 = some ⟨oc1, od1, .func (PySem.W.fnOf "are_joined" "are_joined" (defArgs sAre) (defBody sAre) (defScope sAre) .none kV1 dc1 pm1 an1 cd1 ct1), sl1⟩) (c1 : PySem.W.codeIn K cd1 "are_joined" = true) (k1 : PySem.W.keepIn K (.ref f1) = true)
    (a2 : PySem.W.nsIn K mainGlobals "is_graph" = some (some (.ref f2)))
    (l2 : K.lookup f2 = some ⟨oc2, od2, .func (PySem.W.fnOf "is_graph" "is_graph" (defArgs sIsg) (defBody sIsg) (defScope sIsg) .none kV2 dc2 pm2 an2 cd2 ct2), sl2⟩) (c2 : PySem.W.codeIn K cd2 "is_graph" = true) (k2 : PySem.W.keepIn K (.ref f2) = true)
    (a3 : PySem.W.findIn K (.ref C) "__init__" = some (some (.ref f3))) (i3 : PySem.W.isFn K (.ref f3) = true)
    (l3 : K.lookup f3 = some ⟨oc3, od3, .func (PySem.W.fnOf "__init__" "Mapping.__init__" (defArgs sInit) (defBody sInit) (defScope sInit) .none kV3 dc3 pm3 an3 cd3 ct3), sl3⟩) (c3 : PySem.W.codeIn K cd3 "Mapping.__init__" = true) (k3 : PySem.W.keepIn K (.ref f3) = true)
    (a4 : PySem.W.findIn K (.ref C) "may_go" = some (some (.ref f4))) (i4 : PySem.W.isFn K (.ref f4) = true)
    (l4 : K.lookup f4 = some ⟨oc4, od4, .func (PySem.W.fnOf "may_go" "Mapping.may_go" (defArgs sMay) (defBody sMay) (defScope sMay) .none kV4 dc4 pm4 an4 cd4 ct4), sl4⟩) (c4 : PySem.W.codeIn K cd4 "Mapping.may_go" = true) (k4 : PySem.W.keepIn K (.ref f4) = true)
    (a5 : PySem.W.findIn K (.ref C) "next_nodes" = some (some (.ref f5))) (i5 : PySem.W.isFn K (.ref f5) = true)
    (l5 : K.lookup f5 = some ⟨oc5, od5, .func (PySem.W.fnOf "next_nodes" "Mapping.next_nodes" (defArgs sNext) (defBody sNext) (defScope sNext) .none kV5 dc5 pm5 an5 cd5 ct5), sl5⟩) (c5 : PySem.W.codeIn K cd5 "Mapping.next_nodes" = true) (k5 : PySem.W.keepIn K (.ref f5) = true)
    (a6 : PySem.W.findIn K (.ref C) "first_way" = some (some (.ref f6))) (i6 : PySem.W.isFn K (.ref f6) = true)
    (l6 : K.lookup f6 = some ⟨oc6, od6, .func (PySem.W.fnOf "first_way" "Mapping.first_way" (defArgs sFirst) (defBody sFirst) (defScope sFirst) .none kV6 dc6 pm6 an6 cd6 ct6), sl6⟩) (c6 : PySem.W.codeIn K cd6 "Mapping.first_way" = true) (k6 : PySem.W.keepIn K (.ref f6) = true)
    (a7 : PySem.W.nsIn K mainGlobals "same" = some (some (.ref f7)))
    (l7 : K.lookup f7 = some ⟨oc7, od7, .func (PySem.W.fnOf "same" "same" (defArgs sMain) (defBody sMain) (defScope sMain) .none kV7 dc7 pm7 an7 cd7 ct7), sl7⟩) (c7 : PySem.W.codeIn K cd7 "same" = true) (k7 : PySem.W.keepIn K (.ref f7) = true)
    (n1 : PySem.W.nsIn K mainGlobals "NODES_AT_MOST" = some (some (.int (16) t1)))
    (n2 : PySem.W.nsIn K mainGlobals "REFUSED" = some (some (.int (-1) t2)))
    (z1 : PySem.W.nsIn K mainGlobals "range" = some none)
    (z2 : PySem.W.nsIn K mainGlobals "len" = some none)
    (z3 : PySem.W.nsIn K mainGlobals "enumerate" = some none)
    (aC : PySem.W.nsIn K mainGlobals "Mapping" = some (some (.ref C)))
    (pg : PySem.W.plainGet K C Str.empty = true) (hd : PySem.W.hasDictIn K C = true) (po : PySem.W.plainOver K C = true) (sa : PySem.W.findIn K (.ref C) "__setattr__" = some (some (.builtin "object.__setattr__"))) (mk : PySem.W.makesIn K C = true) (kc : PySem.W.keepIn K (.ref C) = true)
    (x1 : PySem.W.findIn K (.ref C) "a" = some none) (x2 : PySem.W.findIn K (.ref C) "a_colours" = some none) (x3 : PySem.W.findIn K (.ref C) "b" = some none) (x4 : PySem.W.findIn K (.ref C) "b_colours" = some none) (x5 : PySem.W.findIn K (.ref C) "exact" = some none)
    : ∃ fd : FuncData, (∀ (s : Shared) (us : List Value), us.length = (["n", "a", "a_colours", "b", "b_colours"] : List Str).length → BindsTo s fd ⟨us, []⟩ ((["n", "a", "a_colours", "b", "b_colours"] : List Str).zip us)) ∧ ∀ base : Heap, K.In base → base.Ns mainGlobals mg → FnOk P w K mg base CX0 24 fa fd ["n", "a", "a_colours", "b", "b_colours"] (spMain K) := by
  have e := hfa.symm.trans (PySem.W.mg_of X G a7)
  cases e
  have F1 := fun_mk (st := sAre) l1 c1 k1
  have F2 := fun_mk (st := sIsg) l2 c2 k2
  have F3 := fun_mk (st := sInit) l3 c3 k3
  have F4 := fun_mk (st := sMay) l4 c4 k4
  have F5 := fun_mk (st := sNext) l5 c5 k5
  have F6 := fun_mk (st := sFirst) l6 c6 k6
  have F7 := fun_mk (st := sMain) l7 c7 k7
  have b1 := F1.binds (ps := ["rows", "i", "j"]) fun _ _ _ _ _ _ us hl => match us, hl with | [_, _, _], _ => rfl
  have b2 := F2.binds (ps := ["n", "rows"]) fun _ _ _ _ _ _ us hl => match us, hl with | [_, _], _ => rfl
  have b3 := F3.binds (ps := ["self", "a", "a_colours", "b", "b_colours", "exact"]) fun _ _ _ _ _ _ us hl => match us, hl with | [_, _, _, _, _, _], _ => rfl
  have b4 := F4.binds (ps := ["self", "taken", "node"]) fun _ _ _ _ _ _ us hl => match us, hl with | [_, _, _], _ => rfl
  have b5 := F5.binds (ps := ["self", "taken"]) fun _ _ _ _ _ _ us hl => match us, hl with | [_, _], _ => rfl
  have b6 := F6.binds (ps := ["self", "taken"]) fun _ _ _ _ _ _ us hl => match us, hl with | [_, _], _ => rfl
  have m1 := PySem.W.mg_of X G a1
  have m2 := PySem.W.mg_of X G a2
  have m3 : Meth K C "__init__" f3 := ⟨a3, i3, k3⟩
  have m4 : Meth K C "may_go" f4 := ⟨a4, i4, k4⟩
  have m5 : Meth K C "next_nodes" f5 := ⟨a5, i5, k5⟩
  have m6 : Meth K C "first_way" f6 := ⟨a6, i6, k6⟩
  have m7 := PySem.W.mg_of X G a7
  have mc1 := PySem.W.mg_of X G n1
  have mc2 := PySem.W.mg_of X G n2
  have mb1 := PySem.W.mg_none_of X G z1
  have mb2 := PySem.W.mg_none_of X G z2
  have mb3 := PySem.W.mg_none_of X G z3
  have mC := PySem.W.mg_of X G aC
  have T : Txt K C := ⟨⟨pg, hd, po, sa⟩, x1, x2, x3, x4, x5⟩
  have M : Mk K C f3 := ⟨mk, a3, i3, kc⟩
  refine ⟨PySem.W.fnOf "same" "same" (defArgs sMain) (defBody sMain) (defScope sMain) .none kV7 dc7 pm7 an7 cd7 ct7, fun s us hu => match us, hu with | [_, _, _, _, _], _ => .of_eq rfl, fun base _ _ => ?_⟩
  have GI := ok_isg (P := P) (w := w) (base := base) (k := 21) F2 F1 b1 m1 mc1 mb1
  have GN' := (ok_init (P := P) (w := w) (mg := mg) (base := base) F3 T).mono (by decide : 1 ≤ 22)
  have GY := ok_may (P := P) (w := w) (base := base) (k := 0) F4 T F1 b1 m1 mb2 mb3
  have GX := ok_next (P := P) (w := w) (base := base) (k := 1) F5 T GY b4 m4 mb2 mb1
  have GC := all_first (P := P) (w := w) (base := base) F6 T GX b5 m5 b6 m6 mb2 17
  exact ok_main (k := 20) F7 T GI b2 F2.kp m2 M mC GN' b3 (GC.mono (by decide)) b6 m6 mc2
end Sg
open PySem PySem.W PyProof.Rows
set_option maxRecDepth 100000 in
set_option maxHeartbeats 8000000 in
theorem PySem.Challenge.cw_smallgraphs_s03_same_holds : PySem.Challenge.rw_smallgraphs_s03_same.Holds := by
  w_on; k_headS; (case hw => exact ⟨[.int 0, .list [], .list [], .list [], .list []], by decide +kernel, by decide +kernel⟩)
  k_fillS
  refine L2.walk_specK (r := PySem.Challenge.rw_smallgraphs_s03_same) (k := 24) (CX := L2.CX0) (ps := ["n", "a", "a_colours", "b", "b_colours"]) (sp := Sg.spMain) (by decide +kernel) rfl rfl ⟨rfl, by decide, by decide⟩ (fun w h Y => PySem.W.kIn_of Y) ?F ?S (fun _ _ _ _ z => z)
  case F =>
    intro w mg fa h Y KX G hmg
    refine' Sg.all_mk KX G hmg ?a1 ?l1 ?c1 ?k1 ?a2 ?l2 ?c2 ?k2 ?a3 ?i3 ?l3 ?c3 ?k3 ?a4 ?i4 ?l4 ?c4 ?k4 ?a5 ?i5 ?l5 ?c5 ?k5 ?a6 ?i6 ?l6 ?c6 ?k6 ?a7 ?l7 ?c7 ?k7 ?n1 ?n2 ?z1 ?z2 ?z3 ?aC ?pg ?hd ?po ?sa ?mk ?kc ?x1 ?x2 ?x3 ?x4 ?x5
    (case aC => k_is)
    (case a1 => k_is)
    (case l1 => k_is)
    (case c1 => k_is)
    (case k1 => k_is)
    (case a2 => k_is)
    (case l2 => k_is)
    (case c2 => k_is)
    (case k2 => k_is)
    (case a3 => k_is)
    (case i3 => k_is)
    (case l3 => k_is)
    (case c3 => k_is)
    (case k3 => k_is)
    (case a4 => k_is)
    (case i4 => k_is)
    (case l4 => k_is)
    (case c4 => k_is)
    (case k4 => k_is)
    (case a5 => k_is)
    (case i5 => k_is)
    (case l5 => k_is)
    (case c5 => k_is)
    (case k5 => k_is)
    (case a6 => k_is)
    (case i6 => k_is)
    (case l6 => k_is)
    (case c6 => k_is)
    (case k6 => k_is)
    (case a7 => k_is)
    (case l7 => k_is)
    (case c7 => k_is)
    (case k7 => k_is)
    (case n1 => k_is)
    (case n2 => k_is)
    (case z1 => k_is)
    (case z2 => k_is)
    (case z3 => k_is)
    (case pg => k_is)
    (case hd => k_is)
    (case po => k_is)
    (case sa => k_is)
    (case mk => k_is)
    (case kc => k_is)
    (case x1 => k_is)
    (case x2 => k_is)
    (case x3 => k_is)
    (case x4 => k_is)
    (case x5 => k_is)
  case S =>
    intro K H xs a hO hwi hask hx
    obtain ⟨n, as, cs, bs, ds, u⟩ := a
    cases hx with
    | cons h1 hx =>
      cases hx with
      | cons h2 hx =>
        cases hx with
        | cons h3 hx =>
          cases hx with
          | cons h4 hx =>
            cases hx with
            | cons h5 hx =>
              cases hx
              cases h1
              cases h2 with
              | lst s2 a2 =>
                cases h3 with
                | lst s3 a3 =>
                  cases h4 with
                  | lst s4 a4 =>
                    cases h5 with
                    | lst s5 a5 =>
                      have e := L2.ints_dw as _ a2
                      subst e
                      have e := L2.ints_dw cs _ a3
                      subst e
                      have e := L2.ints_dw bs _ a4
                      subst e
                      have e := L2.ints_dw ds _ a5
                      subst e
                      have hask' : Sf20Neutral.asked [[2], [n], as, cs, bs, ds] = true := hask
                      have q : (Sf20Neutral.whole32 n && (Sf20Neutral.few n 7 && (Sf20Neutral.row as n 65535 && (Sf20Neutral.row cs n 255 && (Sf20Neutral.row bs n 65535 && Sf20Neutral.row ds n 255))))) = true := hask'
                      rw [Bool.and_eq_true, Bool.and_eq_true, Bool.and_eq_true, Bool.and_eq_true, Bool.and_eq_true] at q
                      obtain ⟨_, _, q2, q3, q4, q5⟩ := q
                      obtain ⟨r2, t2⟩ := Sg.row_nat q2
                      obtain ⟨r3, t3⟩ := Sg.row_nat q3
                      obtain ⟨r4, t4⟩ := Sg.row_nat q4
                      obtain ⟨r5, t5⟩ := Sg.row_nat q5
                      rw [r2] at s2
                      rw [r3] at s3
                      rw [r4] at s4
                      rw [r5] at s5
                      exact ⟨_, _, _, _, Sf20Neutral.nats as, Sf20Neutral.nats cs, Sf20Neutral.nats bs, Sf20Neutral.nats ds, n, rfl, s2, s3, s4, s5, t2, t3, t4, t5, fun p H' hp => .lst (L2.SqL.of hp) (L2.dw_ints _)⟩
