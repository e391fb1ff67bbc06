import PyProof.Rows.All
import Wide.All
import OpenK.AllK
import Wide.FinOn
import PyProof.EqAt
import PyProof.EqKinds
import PyProof.TupleCall
import Open.SpecLaws
import KE.OsGo
import HandS.Base
import HandS.Call
import HandS.List
import HandS.Comp
import HandS.Iter
import HandS.Ends
import HandS.Words
import HandS.WordsList
import HandS.Spec
import HandS.WideBits
import HandS.SortInts
import KE.LtSeq
import PySem.Challenge.RW_smallgraphs_s05_joined
set_option Elab.async false
set_option linter.all false
set_option maxRecDepth 100000
set_option maxHeartbeats 4000000
namespace Sg
open Sf20

/-! ### plain: graphs -/
theorem good_iff (g : Graph) : good g = true ↔ (1 ≤ g.length ∧ g.length ≤ 16) ∧ (∀ i, i < g.length → g.getD i 0 < 2 ^ g.length) ∧
    (∀ i, i < g.length → joined g i i = false) ∧ ∀ i j, i < g.length → j < g.length → joined g i j = joined g j i := by
  have key : (g.all fun r => decide (r < 2 ^ g.length)) = true ↔ ∀ i, i < g.length → g.getD i 0 < 2 ^ g.length := by
    rw [List.all_eq_true]
    constructor
    · intro h i hi
      have e : g.getD i 0 = g[i] := by simp [hi]
      rw [e]
      exact of_decide_eq_true (h _ (List.getElem_mem hi))
    · intro h r hr
      obtain ⟨i, hi, rfl⟩ := List.getElem_of_mem hr
      have e : g.getD i 0 = g[i] := by simp [hi]
      have q := h i hi
      rw [e] at q
      exact decide_eq_true q
  unfold good
  rw [Bool.and_eq_true, Bool.and_eq_true, Bool.and_eq_true, key, List.all_eq_true]
  simp only [decide_eq_true_eq, List.mem_range, MOST, Bool.and_eq_true, Bool.not_eq_true', List.all_eq_true, beq_iff_eq]
  constructor
  · rintro ⟨⟨⟨h0, h1⟩, h2⟩, h3⟩
    exact ⟨⟨h0, of_decide_eq_true h1⟩, h2, fun i hi => (h3 i hi).1, fun i j hi hj => (h3 i hi).2 j hj⟩
  · rintro ⟨h1, h2, h3, h4⟩
    exact ⟨⟨⟨h1.1, decide_eq_true h1.2⟩, h2⟩, fun i hi => ⟨h3 i hi, fun j hj => h4 i j hi hj⟩⟩
theorem good_len {g : Graph} (h : good g = true) : 1 ≤ g.length ∧ g.length ≤ 16 := ((good_iff g).mp h).1
theorem good_no {g : Graph} (h : good g = true) (i : Nat) : joined g i i = false := by
  by_cases hi : i < g.length
  · exact ((good_iff g).mp h).2.2.1 i hi
  · unfold joined
    have e : g.getD i 0 = 0 := by simp [List.getD, List.getElem?_eq_none (Nat.le_of_not_lt hi)]
    rw [e, Nat.zero_testBit]
theorem good_sym {g : Graph} (h : good g = true) {i j : Nat} (hi : i < g.length) (hj : j < g.length) : joined g i j = joined g j i := ((good_iff g).mp h).2.2.2 i j hi hj
/-- the bit test of the program -/
theorem bit_joined (r j : Nat) : decide (((r : Int) / 2 ^ j) % 2 = 1) = r.testBit j := by
  rw [Nat.testBit_eq_decide_div_mod_eq]
  have e : ((r : Int) / 2 ^ j) % 2 = ((r / 2 ^ j % 2 : Nat) : Int) := by
    rw [Int.natCast_emod, Int.natCast_ediv, Int.natCast_pow]; rfl
  rw [e]
  exact decide_eq_decide.mpr (by omega)
theorem take_more {α : Type} {l : List α} {i : Nat} {x : α} (h : l[i]? = some x) : l.take (i + 1) = l.take i ++ [x] := by
  rw [List.take_add_one, h]; rfl
end Sg
namespace Sg
open Sf20
/-! ### plain: the greatest joined set -/
/-- what is_joined_set tells -/
def jset (g : Graph) (l : List Nat) : Bool := (List.range l.length).all fun i => (l.take i).all fun o => joined g (l.getD i 0) o
theorem jset_iff (g : Graph) (l : List Nat) : jset g l = true ↔ ∀ i, i < l.length → ∀ o, o ∈ l.take i → joined g (l.getD i 0) o = true := by
  unfold jset
  simp only [List.all_eq_true, List.mem_range]
theorem nodes_mem {s i : Nat} : i ∈ nodes s ↔ i < 16 ∧ s.testBit i = true := by
  unfold nodes
  rw [List.mem_filter, List.mem_range]
  exact Iff.rfl
theorem nodes_lt {s n i : Nat} (hs : s < 2 ^ n) (h : i ∈ nodes s) : i < n := by
  have b := (nodes_mem.mp h).2
  rcases Nat.lt_or_ge i n with q | q
  · exact q
  · have z : s < 2 ^ i := Nat.lt_of_lt_of_le hs (Nat.pow_le_pow_right (by decide) q)
    rw [Nat.testBit_lt_two_pow z] at b
    cases b
theorem nodes_nodup (s : Nat) : (nodes s).Nodup := List.Nodup.sublist List.filter_sublist List.nodup_range
theorem nodes_le (s : Nat) : (nodes s).length ≤ 16 := by
  have h : (nodes s).length ≤ (List.range 16).length := List.length_filter_le _ _
  rw [List.length_range] at h
  exact h
theorem take_mem {l : List Nat} {i o : Nat} (h : o ∈ l.take i) : ∃ j, ∃ hj : j < l.length, j < i ∧ l[j] = o := by
  obtain ⟨j, hj, e⟩ := List.getElem_of_mem h
  rw [List.length_take] at hj
  rw [List.getElem_take] at e
  exact ⟨j, by omega, by omega, e⟩
theorem jset_all {g : Graph} (hg : good g = true) {s : Nat} (hs : s < 2 ^ g.length) : jset g (nodes s) = allJoined g s := by
  have hn := nodes_nodup s
  have hl : ∀ i, i ∈ nodes s → i < g.length := fun i h => nodes_lt hs h
  apply Bool.eq_iff_iff.mpr
  unfold allJoined
  rw [jset_iff, decide_eq_true hs, Bool.true_and, List.all_eq_true]
  simp only [List.all_eq_true, Bool.or_eq_true, beq_iff_eq]
  generalize nodes s = l at hn hl
  constructor
  · intro h x hx y hy
    obtain ⟨i, hi, rfl⟩ := List.getElem_of_mem hx
    obtain ⟨j, hj, rfl⟩ := List.getElem_of_mem hy
    have at_ : ∀ a b (ha : a < l.length) (hb : b < l.length), b < a → joined g l[a] l[b] = true := fun a b ha hb hab => by
      have q := h a ha l[b] (List.mem_take_iff_getElem.mpr ⟨b, by omega, rfl⟩)
      have e : l.getD a 0 = l[a] := by simp [ha]
      rw [e] at q
      exact q
    rcases Nat.lt_trichotomy i j with q | q | q
    · right
      rw [good_sym hg (hl _ hx) (hl _ hy)]
      exact at_ j i hj hi q
    · left
      subst q
      rfl
    · right
      exact at_ i j hi hj q
  · intro h i hi o ho
    obtain ⟨j, hj, hji, rfl⟩ := take_mem ho
    have e : l.getD i 0 = l[i] := by simp [hi]
    rw [e]
    rcases h l[i] (List.getElem_mem hi) l[j] (List.getElem_mem hj) with q | q
    · have z := (List.getElem_inj hn).mp q
      omega
    · exact q
/-- the numbers up to i, as greatestOf goes through them -/
def best (g : Graph) (i : Nat) : Nat := (List.range i).foldl (fun (b s : Nat) => if allJoined g s = true ∧ (nodes b).length < (nodes s).length then s else b) 0
theorem best_zero (g : Graph) : best g 0 = 0 := rfl
theorem best_succ (g : Graph) (i : Nat) : best g (i + 1) = if allJoined g i = true ∧ (nodes (best g i)).length < (nodes i).length then i else best g i := by
  unfold best
  rw [List.range_succ, List.foldl_append]
  rfl
theorem best_all (g : Graph) : best g (2 ^ g.length) = greatestOf g := rfl
theorem nodes_zero : nodes 0 = [] := by decide
/-- what nodes_in gives: the bits below the number's length -/
theorem range_cut {p : Nat → Bool} {m : Nat} : ∀ d, (∀ i, m ≤ i → i < m + d → p i = false) → (List.range (m + d)).filter p = (List.range m).filter p
  | 0, _ => rfl
  | d + 1, h => by
    rw [← Nat.add_assoc, List.range_succ, List.filter_append, range_cut d (fun i h1 h2 => h i h1 (by omega))]
    have e : p (m + d) = false := h (m + d) (by omega) (by omega)
    rw [List.filter_cons_of_neg (by rw [e]; exact Bool.false_ne_true), List.filter_nil, List.append_nil]
theorem log_bits {s : Nat} (h : s ≠ 0) : s < 2 ^ (s.log2 + 1) := (Nat.log2_lt h).mp (Nat.lt_succ_self _)
theorem nodes_bits {s : Nat} (m : Nat) (hm : s < 2 ^ m) (hm16 : m ≤ 16) : (List.range m).filter (fun i => s.testBit i) = nodes s := by
  obtain ⟨d, hd⟩ : ∃ d, 16 = m + d := ⟨16 - m, by omega⟩
  show _ = (List.range 16).filter fun i => s.testBit i
  rw [hd]
  refine (range_cut d fun i h1 _ => ?_).symm
  exact Nat.testBit_lt_two_pow (Nat.lt_of_lt_of_le hm (Nat.pow_le_pow_right (by decide) h1))
end Sg
/-! ### the walk: words -/
namespace Sg
open PySem PySem.Spec PyProof.Rows L2
def vn (x : Nat) : V := .int (x : Int)
def vs (l : List Nat) : List V := l.map vn
theorem same_upd {H : Hp} {p : Addr} {o : HO} (h : H p = none) : Same H (upd H p o) := fun b x e => by
  rw [upd_ne (ne_of_none e h)]
  exact e
theorem vs_at {l : List Nat} {i : Nat} (h : i < l.length) : atI (vs l) (i : Int) = some (vn (l.getD i 0)) := by
  refine atI_nat ?_
  unfold vs
  rw [List.getElem?_map, List.getElem?_eq_getElem h]
  have e : l.getD i 0 = l[i] := by simp [h]
  rw [e]; rfl
theorem vs_get {l : List Nat} {i : Nat} {x : V} (h : (vs l)[i]? = some x) : ∃ z, l[i]? = some z ∧ x = vn z := by
  unfold vs at h
  rw [List.getElem?_map] at h
  cases e : l[i]? with
  | none => rw [e] at h; cases h
  | some z =>
    rw [e] at h
    exact ⟨z, rfl, (Option.some.inj h).symm⟩
theorem vs_len (l : List Nat) : (vs l).length = l.length := List.length_map _
theorem vs_snoc (l : List Nat) (x : Nat) : vs (l ++ [x]) = vs l ++ [vn x] := by
  unfold vs
  rw [List.map_append]; rfl
theorem vs_flat (l : List Nat) : (vs l).all flatV = true := by
  rw [List.all_eq_true]
  intro x hx
  obtain ⟨z, _, rfl⟩ := List.mem_map.mp hx
  rfl
theorem getD_of {l : List Nat} {i z : Nat} (h : l[i]? = some z) : l.getD i 0 = z := by simp [List.getD, h]
theorem lt_of_get {α : Type} {l : List α} {i : Nat} {z : α} (h : l[i]? = some z) : i < l.length := by
  rcases Nat.lt_or_ge i l.length with q | q
  · exact q
  · rw [List.getElem?_eq_none q] at h; cases h
theorem vn_eq (a b : Nat) : decide (vn a = vn b) = (a == b) := by
  by_cases e : a = b
  · subst e; simp
  · have h : ¬ vn a = vn b := fun q => e (by injection q with q; exact Int.ofNat.inj q)
    rw [decide_eq_false h]
    exact (beq_eq_false_iff_ne.mpr e).symm
theorem small {n : Nat} (h : n ≤ 16000000) : n < sizeLine := Nat.lt_of_le_of_lt h (by decide)
theorem bang_t {b : Bool} (h : (!b) = true) : b = false := by
  cases b with
  | false => rfl
  | true => cases h
theorem bang_f {b : Bool} (h : ¬ (!b) = true) : b = true := by
  cases b with
  | false => exact absurd rfl h
  | true => rfl
/-! ### the text -/
def top (i : Nat) : Stmt := PySem.Challenge.pw_smallgraphs_s05_joined.main.body.getD i (.Pass ⟨0, 0, 0, 0⟩)
abbrev sAre : Stmt := top 2
abbrev sIsg : Stmt := top 3
def spAre (K : PySem.W.Frag) : Sp := fun xs H Q _ => ∃ (a : Addr) (g : List Nat) (i j : Nat), xs = [.ref a, vn i, vn j] ∧ SqL K H a (vs g) ∧ i < g.length ∧ Q (.bl (Sf20.joined g i j)) H
def spIsg (K : PySem.W.Frag) : Sp := fun xs H Q _ => ∃ (a : Addr) (g : List Nat) (n : Int), xs = [.int n, .ref a] ∧ SqL K H a (vs g) ∧ (1 ≤ n → n ≤ 16 → (g.length : Int) = n) ∧ Q (.bl (Sf20.count n && Sf20.good g)) H
theorem scAre : FnScope ["rows", "i", "j"] ["rows", "i", "j"] (defScope sAre) := ⟨rfl, rfl, rfl, by decide +kernel, rfl, by decide +kernel, by decide +kernel⟩
theorem scIsg : FnScope ["n", "rows", "i", "j"] ["n", "rows"] (defScope sIsg) := ⟨rfl, rfl, rfl, by decide +kernel, rfl, by decide +kernel, by decide +kernel⟩
section
variable {P : Program} {w : World} {K : PySem.W.Frag} {mg : Str → Option Value} {base : Heap}
theorem ok_are {f : Addr} {fd : FuncData} (F : Fun K "are_joined" "are_joined" sAre f fd) : FnOk P w K mg base CX0 1 f fd ["rows", "i", "j"] (spAre K) := by
  refine F.ok scAre (fun xs H Q E h => ?_) (fun cdv A outer s H xs Q E hr h => ?_)
  · obtain ⟨a, g, i, j, rfl, _⟩ := h
    rfl
  obtain ⟨a, g, i, j, rfl, hS, hi, q⟩ := h
  refine ⟨_, pss_one (ps_ret (pe_cmpR op_eq (pe_op op_odd (pe_op op_shrN (pe_ix ix_list (pv 0) (pv 1) (fun _ _ => rfl)) (pv 2)) pe_int) pe_int (nomark _))), ?_⟩
  refine ⟨_, rfl, _, rfl, a, _, _, _, rfl, rfl, hS, vs_at hi, _, rfl, _, j, rfl, rfl, g.getD i 0 / 2 ^ j, ?_, rfl, rfl, ?_⟩
  · rw [Int.natCast_ediv, Int.natCast_pow]; rfl
  · have e : decide (V.int ((g.getD i 0 / 2 ^ j % 2 : Nat) : Int) = V.int 1) = Sf20.joined g i j := by
      have z := vn_eq (g.getD i 0 / 2 ^ j % 2) 1
      unfold Sf20.joined
      rw [Nat.testBit_eq_decide_div_mod_eq]
      exact z.trans (by rw [Bool.eq_iff_iff]; simp)
    show Q (.bl (decide (V.int ((g.getD i 0 / 2 ^ j % 2 : Nat) : Int) = V.int 1))) H
    rw [e]
    exact q
theorem ok_isg {f fA : Addr} {fd fdA : FuncData} {k : Nat} {t16 : Tok} (F : Fun K "is_graph" "is_graph" sIsg f fd) (FA : Fun K "are_joined" "are_joined" sAre fA fdA) (bA : Binds K fdA ["rows", "i", "j"] []) (mA : mg "are_joined" = some (.ref fA))
    (mN : mg "NODES_AT_MOST" = some (.int 16 t16)) (mr : mg "range" = none) : FnOk P w K mg base CX0 (k + 2) f fd ["n", "rows"] (spIsg K) := by
  have GA : FnOk P w K mg base CX0 (k + 1) fA fdA ["rows", "i", "j"] (spAre K) := (ok_are FA).mono (by omega)
  refine F.ok scIsg (fun xs H Q E h => ?_) (fun cdv A outer s H xs Q E hr h => ?_)
  · obtain ⟨a, g, n, rfl, _⟩ := h
    rfl
  obtain ⟨a, g, n, rfl, hS, hn, q⟩ := h
  refine ⟨_, pss_cons (ps_if (PW.pt (pw_or (pt_cmpR op_lt (pv 0) pe_int (nomark _)) (pw_or1 (pt_cmpR op_gt (pv 0) (pe_glob (v := .int 16) rfl mN ⟨_, rfl⟩) (nomark _))))) (pss_one (ps_ret pe_bl)) pss_nil)
    (pss_cons (ps_for PassesOwn.never rfl (pi_range1 rfl mr (pa_cons (pv 0) pa_nil)) (pg_name (i := 2) scIsg.nd rfl (.inl rfl))
      (pss_cons (ps_if (PW.pt (pw_or (pt_cmpR op_ge (pe_ix ix_list (pv 1) (pv 2) (fun _ _ => rfl)) (pe_op op_oneShl pe_int (pv 0)) (nomark _))
          (pw_or1 (pt_val (pe_call GA hr rfl mA FA.kp bA .nil pass0 (pa_cons (pv 1) (pa_cons (pv 2) (pa_cons (pv 2) pa_nil)))))))) (pss_one (ps_ret pe_bl)) pss_nil)
        (pss_one (ps_for PassesOwn.never rfl (pi_range1 rfl mr (pa_cons (pv 0) pa_nil)) (pg_name (i := 3) scIsg.nd rfl (.inl rfl))
          (pss_one (ps_if (pt_cmpR op_ne (pe_call GA hr rfl mA FA.kp bA .nil pass0 (pa_cons (pv 1) (pa_cons (pv 2) (pa_cons (pv 3) pa_nil))))
            (pe_call GA hr rfl mA FA.kp bA .nil pass0 (pa_cons (pv 1) (pa_cons (pv 3) (pa_cons (pv 2) pa_nil)))) (nomark _)) (pss_one (ps_ret pe_bl)) pss_nil))))))
    (pss_one (ps_ret pe_bl))), ?_⟩
  -- n < 1 or n > 16
  refine ⟨_, rfl, _, _, rfl, rfl, _, rfl, ite2 (fun c => ?_) (fun c => ?_)⟩
  · refine iteT ?_
    have c' : n < 1 := of_decide_eq_true c
    have e : Sf20.count n = false := by
      unfold Sf20.count
      rw [decide_eq_false (by omega : ¬ 1 ≤ n), Bool.false_and]
    rw [e, Bool.false_and] at q
    exact q
  have c1 : ¬ n < 1 := fun z => c (decide_eq_true z)
  refine ⟨_, rfl, _, _, rfl, rfl, _, rfl, ite2 (fun c => ?_) (fun c => ?_)⟩
  · have c' : 16 < n := of_decide_eq_true c
    have e : Sf20.count n = false := by
      unfold Sf20.count
      rw [decide_eq_false (by show ¬ n ≤ ((16 : Nat) : Int); omega : ¬ n ≤ (Sf20.MOST : Int)), Bool.and_false]
    rw [e, Bool.false_and] at q
    exact q
  have c2 : ¬ 16 < n := fun z => c (decide_eq_true z)
  obtain ⟨m, rfl⟩ : ∃ m : Nat, n = (m : Int) := ⟨n.toNat, by omega⟩
  have hl : g.length = m := by have := hn (by omega) (by omega); omega
  have ec : Sf20.count (m : Int) = true := by
    unfold Sf20.count
    rw [decide_eq_true (by omega : 1 ≤ (m : Int)), decide_eq_true (by show (m : Int) ≤ ((16 : Nat) : Int); omega : (m : Int) ≤ (Sf20.MOST : Int))]; rfl
  rw [ec, Bool.true_and] at q
  have bad : Sf20.good g = false → Q (.bl false) H := fun e => by rw [e] at q; exact q
  -- for i in range(n)
  refine ⟨_, rfl, (m : Int), rfl, by omega, by omega, for_range (lo := 0) (n := (m : Int).toNat) (fun i σ H' => ∃ v2 v3 : Option V, σ = [some (.int (m : Int)), some (.ref a), v2, v3] ∧ H' = H ∧
    ∀ i', i' < i → g.getD i' 0 < 2 ^ m ∧ Sf20.joined g i' i' = false ∧ ∀ j, j < m → Sf20.joined g i' j = Sf20.joined g j i') ⟨none, none, rfl, rfl, fun i' h => absurd h (Nat.not_lt_zero _)⟩ ?_ ?_⟩
  · rintro i σ H' hi ⟨v2, v3, rfl, rfl, inv⟩
    have hi' : i < m := by omega
    have hig : i < g.length := by omega
    have ei : (V.int (0 + (i : Int))) = vn i := by unfold vn; rw [Int.zero_add]
    rw [ei]
    refine ⟨_, rfl, _, rfl, a, _, _, _, rfl, rfl, hS, vs_at hig, _, rfl, m, rfl, rfl, by omega, _, _, rfl, rfl, _, rfl, ite2 (fun c => ?_) (fun c => ?_)⟩
    · refine iteT (bad (Bool.eq_false_iff.mpr fun z => ?_))
      have c' := of_decide_eq_true c
      have lt := ((good_iff g).mp z).2.1 i hig
      rw [hl] at lt
      have lt' : ((g.getD i 0 : Nat) : Int) < 2 ^ m := by exact_mod_cast lt
      omega
    have c3 : g.getD i 0 < 2 ^ m := by
      have c' : ¬ ((2 : Int) ^ m ≤ ((g.getD i 0 : Nat) : Int)) := fun z => c (decide_eq_true z)
      have c'' : ((g.getD i 0 : Nat) : Int) < 2 ^ m := by omega
      exact_mod_cast c''
    refine ⟨_, rfl, _, rfl, _, rfl, a, g, i, i, rfl, hS, hig, _, rfl, ite2 (fun c => ?_) (fun c => ?_)⟩
    · exact bad (Bool.eq_false_iff.mpr fun z => by rw [((good_iff g).mp z).2.2.1 i hig] at c; cases c)
    have c4 : Sf20.joined g i i = false := Bool.eq_false_iff.mpr c
    -- for j in range(n)
    refine ⟨_, rfl, (m : Int), rfl, by omega, by omega, for_range (lo := 0) (n := (m : Int).toNat) (fun j σ H'' => ∃ v3 : Option V, σ = [some (.int (m : Int)), some (.ref a), some (vn i), v3] ∧ H'' = H' ∧
      ∀ j', j' < j → Sf20.joined g i j' = Sf20.joined g j' i) ⟨v3, rfl, rfl, fun j' h => absurd h (Nat.not_lt_zero _)⟩ ?_ ?_⟩
    · rintro j σ H'' hj ⟨v3, rfl, rfl, inv2⟩
      have hj' : j < m := by omega
      have hjg : j < g.length := by omega
      have ej : (V.int (0 + (j : Int))) = vn j := by unfold vn; rw [Int.zero_add]
      rw [ej]
      refine ⟨_, rfl, _, rfl, _, rfl, a, g, i, j, rfl, hS, hig, _, rfl, _, rfl, _, rfl, a, g, j, i, rfl, hS, hjg, rfl, _, rfl, ?_⟩
      have e : (!decide (V.bl (Sf20.joined g i j) = V.bl (Sf20.joined g j i))) = !(Sf20.joined g i j == Sf20.joined g j i) := by
        cases Sf20.joined g i j <;> cases Sf20.joined g j i <;> rfl
      refine ite2 (fun c => ?_) (fun c => ?_)
      · rw [e] at c
        exact bad (Bool.eq_false_iff.mpr fun z => by rw [good_sym z hig hjg] at c; simp at c)
      · rw [e] at c
        have c5 : Sf20.joined g i j = Sf20.joined g j i := by simpa using c
        refine ⟨_, rfl, rfl, fun j' h => ?_⟩
        rcases Nat.lt_or_ge j' j with z | z
        · exact inv2 j' z
        · have z' : j' = j := by omega
          subst z'
          exact c5
    · rintro σ H'' ⟨v3, rfl, rfl, inv2⟩
      refine ⟨_, _, rfl, rfl, fun i' h => ?_⟩
      rcases Nat.lt_or_ge i' i with z | z
      · exact inv i' z
      · have z' : i' = i := by omega
        subst z'
        exact ⟨c3, c4, fun j h => inv2 j (by omega)⟩
  · rintro σ H' ⟨v2, v3, rfl, rfl, inv⟩
    have e : Sf20.good g = true := (good_iff g).mpr ⟨by omega, fun i hi => by rw [hl]; exact (inv i (by omega)).1, fun i hi => (inv i (by omega)).2.1, fun i j hi hj => (inv i (by omega)).2.2 j (by omega)⟩
    rw [e] at q
    exact q
end
end Sg
/-! ### for i, x in enumerate(xs) -/
namespace Sg
open PySem PySem.Spec PyProof.Rows L2
theorem for_enum {K : PySem.W.Frag} {a : Addr} {xs : List V} {g : TG} {tb : TS} {D : Ends} {σ : L2.St} {H : Hp} (Pv : Nat → L2.St → Hp → Prop) (h0 : Pv 0 σ H) (hl : ∀ i σ H, i ≤ xs.length → Pv i σ H → SqL K H a xs)
    (hs : ∀ i x T σ H, xs[i]? = some x → Pv i σ H → H T = none → g (.ref T) σ (upd H T (.tup [vn i, x])) fun σ2 H2 => tb { D with nx := Pv (i + 1), ct := Pv (i + 1), bk := D.nx } σ2 H2) (hd : ∀ σ H, Pv xs.length σ H → D.nx σ H) :
    ∃ W : Nat → Nat → L2.St → Hp → Prop, (∃ m, W 0 m σ H) ∧ ∀ i m σ H, W i m σ H →
      ((Ite K a).stop i H ∧ D.nx σ H) ∨ ((Ite K a).go i H ∧ ∃ N : L2.St → Hp → Prop, (∀ σ' H', N σ' H' → ∃ m', m' < m ∧ W (i + 1) m' σ' H') ∧ ∀ x H', (Ite K a).yld i H x H' → g x σ H' fun σ2 H2 => tb { D with nx := N, ct := N, bk := D.nx } σ2 H2) := by
  refine ⟨fun i m σ H => m = xs.length - i ∧ i ≤ xs.length ∧ Pv i σ H, ⟨xs.length, by simp, Nat.zero_le _, h0⟩, ?_⟩
  rintro i m σ H ⟨rfl, hi, p⟩
  have q := hl i σ H hi p
  by_cases hlt : i < xs.length
  · have hx : xs[i]? = some xs[i] := by simp [hlt]
    refine .inr ⟨⟨xs, xs[i], q, hx⟩, Pv (i + 1), fun σ' H' p' => ⟨xs.length - (i + 1), by omega, rfl, hlt, p'⟩, fun v H' y => ?_⟩
    obtain ⟨T, x, rfl, nT, rfl, hy⟩ := y
    exact hs i x T σ H (hy xs q) p nT
  · have e : i = xs.length := by omega
    subst e
    exact .inl ⟨⟨xs, q, Nat.le_refl _⟩, hd σ H p⟩
end Sg
/-! ### the request and the answer -/
namespace Sg
open PySem PySem.Spec PyProof.Rows L2
def ans (y : Sf20.Ans) : List Int := y.v :: y.l.map fun (x : Nat) => (x : Int)
theorem ans_vs (n : Nat) (l : List Nat) : (ans ⟨(n : Int), l⟩).map V.int = vs (n :: l) := by
  unfold ans vs
  rw [List.map_cons, List.map_map, List.map_cons]; rfl
theorem row_nat {l : List Int} {n top : Int} (h : Sf20Neutral.row l n top = true) : l.map V.int = vs (Sf20Neutral.nats l) ∧ (1 ≤ n → n ≤ 16 → ((Sf20Neutral.nats l).length : Int) = n) := by
  unfold Sf20Neutral.row at h
  rw [Bool.and_eq_true, List.all_eq_true] at h
  obtain ⟨h1, h2⟩ := h
  constructor
  · unfold vs Sf20Neutral.nats
    rw [List.map_map]
    refine List.map_congr_left fun x hx => ?_
    have q := h1 x hx
    unfold Sf20Neutral.within at q
    rw [Bool.and_eq_true] at q
    have q' := of_decide_eq_true q.1
    show V.int x = vn x.toNat
    unfold vn
    rw [Int.toNat_of_nonneg q']
  · intro a b
    have h2' := of_decide_eq_true h2
    rw [if_pos ⟨a, b⟩] at h2'
    unfold Sf20Neutral.nats
    rw [List.length_map]
    exact h2'
end Sg
/-! ### the walk: joined sets -/
namespace Sg
open PySem PySem.Spec PyProof.Rows L2
abbrev sNod : Stmt := top 5
abbrev sJst : Stmt := top 6
abbrev sGjs : Stmt := top 7
abbrev sMain : Stmt := top 10
def spNod (K : PySem.W.Frag) : Sp := fun xs H Q _ => ∃ (s : Nat), xs = [vn s] ∧ s < 2 ^ 16 ∧ ∀ p H', Same H H' → H' p = some (.lst (vs (Sf20.nodes s))) → Q (.ref p) H'
def spJst (K : PySem.W.Frag) : Sp := fun xs H Q _ => ∃ (a b : Addr) (g l : List Nat), xs = [.ref a, .ref b] ∧ SqL K H a (vs g) ∧ SqL K H b (vs l) ∧ (∀ x, x ∈ l → x < g.length) ∧ ∀ H', Same H H' → Q (.bl (jset g l)) H'
def spGjs (K : PySem.W.Frag) : Sp := fun xs H Q _ => ∃ (a : Addr) (g : List Nat), xs = [vn g.length, .ref a] ∧ SqL K H a (vs g) ∧ Sf20.good g = true ∧ ∀ p H', Same H H' → H' p = some (.tup [vn (Sf20.nodes (Sf20.greatestOf g)).length, vn (Sf20.greatestOf g)]) → Q (.ref p) H'
def spMain (K : PySem.W.Frag) : Sp := fun xs H Q _ => ∃ (a : Addr) (g : List Nat) (n : Int), xs = [.int n, .ref a] ∧ SqL K H a (vs g) ∧ (1 ≤ n → n ≤ 16 → (g.length : Int) = n) ∧ ∀ p H', H' p = some (.lst ((ans (Sf20.does (.joined n g))).map V.int)) → Q (.ref p) H'
theorem scNod : FnScope ["number", "node"] ["number"] (defScope sNod) := ⟨rfl, rfl, rfl, by decide +kernel, rfl, by decide +kernel, by decide +kernel⟩
theorem scJst : FnScope ["rows", "nodes", "i", "node", "other"] ["rows", "nodes"] (defScope sJst) := ⟨rfl, rfl, rfl, by decide +kernel, rfl, by decide +kernel, by decide +kernel⟩
theorem scGjs : FnScope ["n", "rows", "best", "number", "nodes"] ["n", "rows"] (defScope sGjs) := ⟨rfl, rfl, rfl, by decide +kernel, rfl, by decide +kernel, by decide +kernel⟩
theorem scMain : FnScope ["n", "rows"] ["n", "rows"] (defScope sMain) := ⟨rfl, rfl, rfl, by decide +kernel, rfl, by decide +kernel, by decide +kernel⟩
theorem bits_facts {s : Nat} (h : s < 2 ^ 16) : s < 2 ^ (Builtin.Int.intBits (s : Int)) ∧ Builtin.Int.intBits (s : Int) ≤ 16 := by
  unfold Builtin.Int.intBits
  by_cases e : s = 0
  · subst e
    exact ⟨by decide, by decide⟩
  · have e' : ((s : Int) == 0) = false := beq_eq_false_iff_ne.mpr (by omega)
    rw [e', if_neg Bool.false_ne_true, Int.natAbs_natCast]
    exact ⟨log_bits e, (Nat.log2_lt e).mpr h⟩
section
variable {P : Program} {w : World} {K : PySem.W.Frag} {mg : Str → Option Value} {base : Heap}
theorem ok_nod {f : Addr} {fd : FuncData} (F : Fun K "nodes_in" "nodes_in" sNod f fd) (mr : mg "range" = none) : FnOk P w K mg base CX0 1 f fd ["number"] (spNod K) := by
  refine F.ok scNod (fun xs H Q E h => ?_) (fun cdv A outer s H xs Q E hr h => ?_)
  · obtain ⟨z, rfl, _⟩ := h
    rfl
  obtain ⟨z, rfl, hz, q⟩ := h
  refine ⟨_, pss_one (ps_ret (pe_lc (own := [("node", 1)]) (g := gName 1) rfl scNod.nd (pi_range1 rfl mr (pa_cons (pe_bits (pv 0)) pa_nil))
    (blkOk_by (own := [("node", 1)]) (N := ["number", "node"]) (sc := defScope sNod) (by decide +kernel)) (fun _ _ _ _ _ => pg_name (i := 1) scNod.nd rfl (Or.inl rfl))
    (fun _ _ _ _ _ => pts_one (pt_cmpR op_eq (pe_op op_odd (pe_op op_shrN (pv 0) (pv 1)) pe_int) pe_int (nomark _))) (fun _ _ _ _ _ => pv 1))), ?_⟩
  obtain ⟨b1, b2⟩ := bits_facts hz
  refine ⟨_, rfl, (z : Int), rfl, _, rfl, by omega, by omega, fun D hD => ?_⟩
  generalize Builtin.Int.intBits (z : Int) = m at b1 b2
  refine lc_range (lo := 0) (n := (m : Int).toNat) (fun i H' => Same H H' ∧ H' D = some (.lst (vs ((List.range i).filter fun x => z.testBit x)))) ⟨same_upd hD, upd_same⟩ ?_ ?_
  · rintro i H' hi ⟨sm, hd⟩
    have ei : (V.int (0 + (i : Int))) = vn i := by unfold vn; rw [Int.zero_add]
    rw [ei]
    refine ⟨rfl, _, rfl, _, rfl, _, i, rfl, rfl, z / 2 ^ i, ?_, rfl, rfl, _, rfl, ?_⟩
    · rw [Int.natCast_ediv, Int.natCast_pow]; rfl
    have e : decide (V.int ((z / 2 ^ i % 2 : Nat) : Int) = V.int 1) = z.testBit i := by
      have y := vn_eq (z / 2 ^ i % 2) 1
      rw [Nat.testBit_eq_decide_div_mod_eq]
      exact y.trans (by rw [Bool.eq_iff_iff]; simp)
    rw [e, List.range_succ, List.filter_append]
    refine ite2 (fun c => ?_) (fun c => ?_)
    · refine ⟨_, rfl, _, hd, ?_, fun b o h => ?_, ?_⟩
      · rw [vs_len]
        have l : ((List.range i).filter fun x => z.testBit x).length ≤ (List.range i).length := List.length_filter_le _ _
        rw [List.length_range] at l
        exact small (by omega)
      · rw [upd_ne (ne_of_none h hD)]
        exact sm b o h
      · rw [upd_same, List.filter_cons_of_pos c, List.filter_nil, vs_snoc]
    · refine ⟨sm, ?_⟩
      rw [List.filter_cons_of_neg c, List.filter_nil, List.append_nil]
      exact hd
  · rintro H' ⟨sm, hd⟩
    refine q D H' sm ?_
    rw [hd, Int.toNat_natCast, nodes_bits m b1 b2]
theorem ok_jst {f fA : Addr} {fd fdA : FuncData} {k : Nat} (F : Fun K "is_joined_set" "is_joined_set" sJst f fd) (FA : Fun K "are_joined" "are_joined" sAre fA fdA) (bA : Binds K fdA ["rows", "i", "j"] []) (mA : mg "are_joined" = some (.ref fA))
    (me : mg "enumerate" = none) : FnOk P w K mg base CX0 (k + 2) f fd ["rows", "nodes"] (spJst K) := by
  have GA : FnOk P w K mg base CX0 (k + 1) fA fdA ["rows", "i", "j"] (spAre K) := (ok_are FA).mono (by omega)
  refine F.ok scJst (fun xs H Q E h => ?_) (fun cdv A outer s H xs Q E hr h => ?_)
  · obtain ⟨a, b, g, l, rfl, _⟩ := h
    rfl
  obtain ⟨a, b, g, l, rfl, hS, hL, hlt, q⟩ := h
  refine ⟨_, pss_cons (ps_for PassesOwn.never rfl (pi_enum (by rfl) me (pa_cons (pv 1) pa_nil)) (pg_tup rfl (pgs_cons (pg_name (i := 2) scJst.nd rfl (.inl rfl)) (pgs_cons (pg_name (i := 3) scJst.nd rfl (.inl rfl)) pgs_nil)))
      (pss_one (ps_for PassesOwn.never rfl (pi_list (pe_slice sl_list (pv 1) po_none (po_some (pv 2)))) (pg_name (i := 4) scJst.nd rfl (.inl rfl))
        (pss_one (ps_if (pt_not (pt_val (pe_call GA hr rfl mA FA.kp bA .nil pass0 (pa_cons (pv 0) (pa_cons (pv 3) (pa_cons (pv 4) pa_nil)))))) (pss_one (ps_ret pe_bl)) pss_nil)))))
    (pss_one (ps_ret pe_bl)), ?_⟩
  have bad : ∀ H', Same H H' → jset g l = false → Q (.bl false) H' := fun H' sm e => by have z := q H' sm; rw [e] at z; exact z
  refine ⟨_, rfl, b, _, rfl, hL, for_enum (K := K) (a := b) (xs := vs l) (fun i σ H' => ∃ v2 v3 v4 : Option V, σ = [some (.ref a), some (.ref b), v2, v3, v4] ∧ Same H H' ∧
    ∀ i', i' < i → ∀ o, o ∈ l.take i' → Sf20.joined g (l.getD i' 0) o = true) ⟨none, none, none, rfl, Same.refl H, fun i' h => absurd h (Nat.not_lt_zero _)⟩ (fun i σ H' _ ⟨_, _, _, _, sm, _⟩ => sm.seq hL) ?_ ?_⟩
  · rintro i x T σ H' hx ⟨v2, v3, v4, rfl, sm, inv⟩ hT
    obtain ⟨z, hz, rfl⟩ := vs_get hx
    have sT : Same H (upd H' T (.tup [vn i, vn z])) := sm.trans (same_upd hT)
    have hil : i < l.length := lt_of_get hz
    have hzg : z < g.length := hlt z (List.mem_of_getElem? hz)
    refine ⟨T, _, rfl, SqT.of upd_same, rfl, _, _, rfl, _, _, rfl, rfl, ?_⟩
    refine ⟨_, rfl, _, rfl, (i : Int), rfl, b, _, rfl, sT.seq hL, fun c hc => ?_⟩
    have sc : Same H (upd (upd H' T (.tup [vn i, vn z])) c (.lst (cutV (vs l) none (some (i : Int))))) := sT.trans (same_upd hc)
    have ec : cutV (vs l) none (some (i : Int)) = vs (l.take i) := by
      unfold cutV
      rw [HT.sIx_none, HT.sIx_nat, List.drop_zero, Nat.sub_zero, vs_len, Nat.min_eq_left (Nat.le_of_lt hil)]
      unfold vs
      rw [List.map_take]
    rw [ec] at sc ⊢
    refine ⟨c, rfl, ⟨_, SqL.of upd_same⟩, for_list (K := K) (a := c) (xs := vs (l.take i)) (fun j σ H'' => ∃ v4 : Option V, σ = [some (.ref a), some (.ref b), some (vn i), some (vn z), v4] ∧ Same H H'' ∧ H'' c = some (.lst (vs (l.take i))) ∧
      ∀ j', j' < j → ∀ o, (l.take i)[j']? = some o → Sf20.joined g z o = true) ⟨v4, rfl, sc, upd_same, fun j' h => absurd h (Nat.not_lt_zero _)⟩ (fun j σ H'' _ ⟨_, _, _, h, _⟩ => SqL.of h) ?_ ?_⟩
    · rintro j y σ H'' hy ⟨v4', rfl, sm2, hc2, inv2⟩
      obtain ⟨o, ho, rfl⟩ := vs_get hy
      refine ⟨_, rfl, _, rfl, _, rfl, a, g, z, o, rfl, sm2.seq hS, hzg, _, rfl, ite2 (fun cc => ?_) (fun cc => ?_)⟩
      · refine bad H'' sm2 (Bool.eq_false_iff.mpr fun w' => ?_)
        have y2 := (jset_iff g l).mp w' i hil o (List.mem_of_getElem? ho)
        rw [getD_of hz] at y2
        rw [y2] at cc
        cases cc
      · have cc' : Sf20.joined g z o = true := by simpa using cc
        refine ⟨_, rfl, sm2, hc2, fun j' h o' ho' => ?_⟩
        rcases Nat.lt_or_ge j' j with w' | w'
        · exact inv2 j' w' o' ho'
        · have w'' : j' = j := by omega
          subst w''
          rw [ho] at ho'
          cases ho'
          exact cc'
    · rintro σ H'' ⟨v4', rfl, sm2, hc2, inv2⟩
      refine ⟨_, _, _, rfl, sm2, fun i' h o ho => ?_⟩
      rcases Nat.lt_or_ge i' i with w' | w'
      · exact inv i' w' o ho
      · have w'' : i' = i := by omega
        subst w''
        rw [getD_of hz]
        obtain ⟨j, hj, e⟩ := List.getElem_of_mem ho
        exact inv2 j (by rw [vs_len]; exact hj) o (by rw [List.getElem?_eq_getElem hj, e])
  · rintro σ H' ⟨v2, v3, v4, rfl, sm, inv⟩
    rw [vs_len] at inv
    have e : jset g l = true := (jset_iff g l).mpr inv
    have y := q H' sm
    rw [e] at y
    exact y
theorem ok_gjs {f fN fJ : Addr} {fd fdN fdJ : FuncData} {k : Nat} (F : Fun K "greatest_joined_set" "greatest_joined_set" sGjs f fd) (GN : FnOk P w K mg base CX0 (k + 1) fN fdN ["number"] (spNod K)) (bN : Binds K fdN ["number"] []) (kN : PySem.W.keepIn K (.ref fN) = true) (mN : mg "nodes_in" = some (.ref fN))
    (GJ : FnOk P w K mg base CX0 (k + 1) fJ fdJ ["rows", "nodes"] (spJst K)) (bJ : Binds K fdJ ["rows", "nodes"] []) (kJ : PySem.W.keepIn K (.ref fJ) = true) (mJ : mg "is_joined_set" = some (.ref fJ))
    (mr : mg "range" = none) (ml : mg "len" = none) : FnOk P w K mg base CX0 (k + 2) f fd ["n", "rows"] (spGjs K) := by
  refine F.ok scGjs (fun xs H Q E h => ?_) (fun cdv A outer s H xs Q E hr h => ?_)
  · obtain ⟨a, g, rfl, _⟩ := h
    rfl
  obtain ⟨a, g, rfl, hS, hg, q⟩ := h
  obtain ⟨g1, g16⟩ := good_len hg
  refine ⟨_, pss_cons (ps_set (i := 2) scGjs.nd rfl (.inl rfl) (pe_tup (pa_cons pe_int (pa_cons pe_int pa_nil))))
    (pss_cons (ps_for PassesOwn.never rfl (pi_range1 rfl mr (pa_cons (pe_op op_oneShl pe_int (pv 0)) pa_nil)) (pg_name (i := 3) scGjs.nd rfl (.inl rfl))
      (pss_cons (ps_set (i := 4) scGjs.nd rfl (.inl rfl) (pe_call GN hr rfl mN kN bN .nil pass0 (pa_cons (pv 3) pa_nil)))
      (pss_one (ps_if (PW.pt (pw_and (pt_cmpR op_gt (pe_callB call_len_seq rfl ml PySem.boot_len (pa_cons (pv 4) pa_nil)) (pe_ix ix_tup (pv 2) pe_int (fun _ _ => rfl)) (nomark _))
          (pw_and1 (pt_val (pe_call GJ hr rfl mJ kJ bJ .nil pass0 (pa_cons (pv 1) (pa_cons (pv 4) pa_nil)))))))
        (pss_one (ps_set (i := 2) scGjs.nd rfl (.inl rfl) (pe_tup (pa_cons (pe_callB call_len_seq rfl ml PySem.boot_len (pa_cons (pv 4) pa_nil)) (pa_cons (pv 3) pa_nil))))) pss_nil))))
    (pss_one (ps_ret (pv 2)))), ?_⟩
  refine ⟨by show 2 ≤ sizeLine; decide, fun t0 ht0 => ?_⟩
  have p16 : 2 ^ g.length ≤ 2 ^ 16 := Nat.pow_le_pow_right (by decide) g16
  have e2 : ((2 : Int) ^ g.length) = ((2 ^ g.length : Nat) : Int) := by rw [Int.natCast_pow]; rfl
  obtain ⟨M, hM⟩ : ∃ M, M = 2 ^ g.length := ⟨_, rfl⟩
  rw [← hM] at p16 e2
  refine ⟨_, rfl, g.length, rfl, rfl, by omega, (2 : Int) ^ g.length, rfl, by rw [e2]; omega, by rw [e2]; omega, ?_⟩
  rw [e2]
  refine for_range (lo := 0) (n := (M : Int).toNat) (fun i σ H' => ∃ (t : Addr) (v3 v4 : Option V), σ = [some (vn g.length), some (.ref a), some (.ref t), v3, v4] ∧ Same H H' ∧
    H' t = some (.tup [vn (Sf20.nodes (best g i)).length, vn (best g i)])) ⟨t0, none, none, rfl, same_upd ht0, ?_⟩ ?_ ?_
  · rw [upd_same, best_zero, nodes_zero]; rfl
  · rintro i σ H' hi ⟨t, v3, v4, rfl, sm, ht⟩
    have hi' : i < 2 ^ g.length := by rw [← hM]; omega
    have hi16 : i < 2 ^ 16 := by omega
    have ei : (V.int (0 + (i : Int))) = vn i := by unfold vn; rw [Int.zero_add]
    rw [ei]
    refine ⟨_, rfl, i, rfl, hi16, fun p H1 s1 hp => ?_⟩
    have smA : Same H H1 := sm.trans s1
    refine ⟨_, rfl, p, _, rfl, .inl (SqL.of hp), _, rfl, t, _, _, _, rfl, rfl, SqT.of (s1 _ _ ht), rfl, _, _, rfl, rfl, _, rfl, ?_⟩
    rw [vs_len]
    refine ite2 (fun c => ?_) (fun c => ?_)
    · have c' : (Sf20.nodes (best g i)).length < (Sf20.nodes i).length := by
        have c2 := of_decide_eq_true c
        omega
      refine ⟨_, rfl, _, rfl, a, p, g, Sf20.nodes i, rfl, smA.seq hS, SqL.of hp, fun x hx => nodes_lt hi' hx, fun H2 s2 => ⟨_, rfl, ?_⟩⟩
      rw [jset_all hg hi']
      have smB : Same H H2 := smA.trans s2
      refine ite2 (fun d => ?_) (fun d => ?_)
      · refine ⟨_, rfl, p, _, rfl, .inl (SqL.of (s2 _ _ hp)), _, rfl, by show 2 ≤ sizeLine; decide, fun t2 ht2 => ?_⟩
        refine ⟨t2, _, _, rfl, smB.trans (same_upd ht2), ?_⟩
        rw [upd_same, best_succ, if_pos ⟨d, c'⟩, vs_len]; rfl
      · refine ⟨t, _, _, rfl, smB, ?_⟩
        rw [best_succ, if_neg (fun z => d z.1)]
        exact s2 _ _ (s1 _ _ ht)
    · refine ⟨t, _, _, rfl, smA, ?_⟩
      rw [best_succ, if_neg (fun z => c (decide_eq_true (by have := z.2; omega)))]
      exact s1 _ _ ht
  · rintro σ H' ⟨t, v3, v4, rfl, sm, ht⟩
    refine ⟨_, rfl, q t H' sm ?_⟩
    rw [Int.toNat_natCast, hM, best_all] at ht
    exact ht
theorem ok_main {f fI fG : Addr} {fd fdI fdG : FuncData} {k : Nat} {tR : Tok} (F : Fun K "joined" "joined" sMain f fd) (GI : FnOk P w K mg base CX0 (k + 1) fI fdI ["n", "rows"] (spIsg K)) (bI : Binds K fdI ["n", "rows"] []) (kI : PySem.W.keepIn K (.ref fI) = true) (mI : mg "is_graph" = some (.ref fI))
    (GG : FnOk P w K mg base CX0 (k + 1) fG fdG ["n", "rows"] (spGjs K)) (bG : Binds K fdG ["n", "rows"] []) (kG : PySem.W.keepIn K (.ref fG) = true) (mG : mg "greatest_joined_set" = some (.ref fG))
    (mR : mg "REFUSED" = some (.int (-1) tR)) (ml : mg "list" = none) : FnOk P w K mg base CX0 (k + 2) f fd ["n", "rows"] (spMain K) := by
  refine F.ok scMain (fun xs H Q E h => ?_) (fun cdv A outer s H xs Q E hr h => ?_)
  · obtain ⟨a, g, n, rfl, _⟩ := h
    rfl
  obtain ⟨a, g, n, rfl, hS, hn, q⟩ := h
  refine ⟨_, pss_cons (ps_if (pt_not (pt_val (pe_call GI hr rfl mI kI bI .nil pass0 (pa_cons (pv 0) (pa_cons (pv 1) pa_nil))))) (pss_one (ps_ret (pe_lst (pa_cons (pe_glob (v := .int (-1)) rfl mR ⟨_, rfl⟩) pa_nil)))) pss_nil)
    (pss_one (ps_ret (pe_callTy call_list_of rfl ml (by decide +kernel) (pa_cons (pe_call GG hr rfl mG kG bG .nil pass0 (pa_cons (pv 0) (pa_cons (pv 1) pa_nil))) pa_nil)))), ?_⟩
  refine ⟨_, rfl, _, rfl, a, g, n, rfl, hS, hn, _, rfl, ?_⟩
  refine ite2 (fun c => ?_) (fun c => ?_)
  · have c' : (Sf20.count n && Sf20.good g) = false := bang_t c
    refine ⟨by show 1 ≤ sizeLine; decide, fun p hp => q p _ ?_⟩
    have e : Sf20.does (.joined n g) = Sf20.ok (-1) := if_pos c'
    rw [upd_same, e]; rfl
  · have c' : (Sf20.count n && Sf20.good g) = true := bang_f c
    obtain ⟨c1, c2⟩ := Bool.and_eq_true_iff.mp c'
    have en : (g.length : Int) = n := by
      unfold Sf20.count at c1
      rw [Bool.and_eq_true] at c1
      exact hn (of_decide_eq_true c1.1) (of_decide_eq_true c1.2)
    have e : Sf20.does (.joined n g) = ⟨((Sf20.nodes (Sf20.greatestOf g)).length : Nat), [Sf20.greatestOf g]⟩ := if_neg (by rw [c']; exact Bool.noConfusion)
    rw [e, ans_vs] at q
    subst en
    refine ⟨_, rfl, _, rfl, a, g, rfl, hS, c2, fun p H' sm hp => ?_⟩
    refine ⟨p, _, rfl, .inr (SqT.of hp), fun l hl => q l _ ?_⟩
    rw [upd_same]; rfl
end
end Sg
/-! ### the end: what the top has left -/
namespace Sg
open PySem PySem.Spec PyProof.Rows L2
theorem all_mk {P : Program} {w : World} {K : PySem.W.Frag} {h : Heap} {mg : Str → Option Value} {fa f1 f2 f3 f4 f5 f6 : Addr} (X : K.In h) (G : h.Ns mainGlobals mg) (hfa : mg "joined" = some (.ref fa))
    {od1 an1 od2 an2 od3 an3 od4 an4 od5 an5 od6 an6 : Option Addr} {sl1 sl2 sl3 sl4 sl5 sl6 : Array (Option Value)} {oc1 kV1 dc1 pm1 cd1 ct1 oc2 kV2 dc2 pm2 cd2 ct2 oc3 kV3 dc3 pm3 cd3 ct3 oc4 kV4 dc4 pm4 cd4 ct4 oc5 kV5 dc5 pm5 cd5 ct5 oc6 kV6 dc6 pm6 cd6 ct6 : Value}
    {t1 t2 : Tok}
    (a1 : PySem.W.nsIn K mainGlobals "are_joined" = some (some (.ref f1)))
    (l1 : K.lookup f1 = some ⟨oc1, od1, .func (PySem.W.fnOf "are_joined" "are_joined" (defArgs sAre) (defBody sAre) (defScope sAre) .none kV1 dc1 pm1 an1 cd1 ct1), sl1⟩) (c1 : PySem.W.codeIn K cd1 "are_joined" = true) (k1 : PySem.W.keepIn K (.ref f1) = true)
    (a2 : PySem.W.nsIn K mainGlobals "is_graph" = some (some (.ref f2)))
    (l2 : K.lookup f2 = some ⟨oc2, od2, .func (PySem.W.fnOf "is_graph" "is_graph" (defArgs sIsg) (defBody sIsg) (defScope sIsg) .none kV2 dc2 pm2 an2 cd2 ct2), sl2⟩) (c2 : PySem.W.codeIn K cd2 "is_graph" = true) (k2 : PySem.W.keepIn K (.ref f2) = true)
    (a3 : PySem.W.nsIn K mainGlobals "nodes_in" = some (some (.ref f3)))
    (l3 : K.lookup f3 = some ⟨oc3, od3, .func (PySem.W.fnOf "nodes_in" "nodes_in" (defArgs sNod) (defBody sNod) (defScope sNod) .none kV3 dc3 pm3 an3 cd3 ct3), sl3⟩) (c3 : PySem.W.codeIn K cd3 "nodes_in" = true) (k3 : PySem.W.keepIn K (.ref f3) = true)
    (a4 : PySem.W.nsIn K mainGlobals "is_joined_set" = some (some (.ref f4)))
    (l4 : K.lookup f4 = some ⟨oc4, od4, .func (PySem.W.fnOf "is_joined_set" "is_joined_set" (defArgs sJst) (defBody sJst) (defScope sJst) .none kV4 dc4 pm4 an4 cd4 ct4), sl4⟩) (c4 : PySem.W.codeIn K cd4 "is_joined_set" = true) (k4 : PySem.W.keepIn K (.ref f4) = true)
    (a5 : PySem.W.nsIn K mainGlobals "greatest_joined_set" = some (some (.ref f5)))
    (l5 : K.lookup f5 = some ⟨oc5, od5, .func (PySem.W.fnOf "greatest_joined_set" "greatest_joined_set" (defArgs sGjs) (defBody sGjs) (defScope sGjs) .none kV5 dc5 pm5 an5 cd5 ct5), sl5⟩) (c5 : PySem.W.codeIn K cd5 "greatest_joined_set" = true) (k5 : PySem.W.keepIn K (.ref f5) = true)
    (a6 : PySem.W.nsIn K mainGlobals "joined" = some (some (.ref f6)))
    (l6 : K.lookup f6 = some ⟨oc6, od6, .func (PySem.W.fnOf "joined" "joined" (defArgs sMain) (defBody sMain) (defScope sMain) .none kV6 dc6 pm6 an6 cd6 ct6), sl6⟩) (c6 : PySem.W.codeIn K cd6 "joined" = true) (k6 : PySem.W.keepIn K (.ref f6) = true)
    (n1 : PySem.W.nsIn K mainGlobals "NODES_AT_MOST" = some (some (.int (16) t1)))
    (n2 : PySem.W.nsIn K mainGlobals "REFUSED" = some (some (.int (-1) t2)))
    (z1 : PySem.W.nsIn K mainGlobals "range" = some none)
    (z2 : PySem.W.nsIn K mainGlobals "len" = some none)
    (z3 : PySem.W.nsIn K mainGlobals "enumerate" = some none)
    (z4 : PySem.W.nsIn K mainGlobals "list" = some none)
    : ∃ fd : FuncData, (∀ (s : Shared) (us : List Value), us.length = (["n", "rows"] : List Str).length → BindsTo s fd ⟨us, []⟩ ((["n", "rows"] : List Str).zip us)) ∧ ∀ base : Heap, K.In base → base.Ns mainGlobals mg → FnOk P w K mg base CX0 5 fa fd ["n", "rows"] (spMain K) := by
  have e := hfa.symm.trans (PySem.W.mg_of X G a6)
  cases e
  have F1 := fun_mk (st := sAre) l1 c1 k1
  have F2 := fun_mk (st := sIsg) l2 c2 k2
  have F3 := fun_mk (st := sNod) l3 c3 k3
  have F4 := fun_mk (st := sJst) l4 c4 k4
  have F5 := fun_mk (st := sGjs) l5 c5 k5
  have F6 := fun_mk (st := sMain) l6 c6 k6
  have b1 := F1.binds (ps := ["rows", "i", "j"]) fun _ _ _ _ _ _ us hl => match us, hl with | [_, _, _], _ => rfl
  have b2 := F2.binds (ps := ["n", "rows"]) fun _ _ _ _ _ _ us hl => match us, hl with | [_, _], _ => rfl
  have b3 := F3.binds (ps := ["number"]) fun _ _ _ _ _ _ us hl => match us, hl with | [_], _ => rfl
  have b4 := F4.binds (ps := ["rows", "nodes"]) fun _ _ _ _ _ _ us hl => match us, hl with | [_, _], _ => rfl
  have b5 := F5.binds (ps := ["n", "rows"]) fun _ _ _ _ _ _ us hl => match us, hl with | [_, _], _ => rfl
  have m1 := PySem.W.mg_of X G a1
  have m2 := PySem.W.mg_of X G a2
  have m3 := PySem.W.mg_of X G a3
  have m4 := PySem.W.mg_of X G a4
  have m5 := PySem.W.mg_of X G a5
  have m6 := PySem.W.mg_of X G a6
  have mc1 := PySem.W.mg_of X G n1
  have mc2 := PySem.W.mg_of X G n2
  have mb1 := PySem.W.mg_none_of X G z1
  have mb2 := PySem.W.mg_none_of X G z2
  have mb3 := PySem.W.mg_none_of X G z3
  have mb4 := PySem.W.mg_none_of X G z4
  refine ⟨PySem.W.fnOf "joined" "joined" (defArgs sMain) (defBody sMain) (defScope sMain) .none kV6 dc6 pm6 an6 cd6 ct6, fun s us hu => match us, hu with | [_, _], _ => .of_eq rfl, fun base _ _ => ?_⟩
  have GI := ok_isg (P := P) (w := w) (base := base) (k := 2) F2 F1 b1 m1 mc1 mb1
  have GN := (ok_nod (P := P) (w := w) (base := base) F3 mb1).mono (by decide : 1 ≤ 3)
  have GJ := ok_jst (P := P) (w := w) (base := base) (k := 1) F4 F1 b1 m1 mb3
  have GG := ok_gjs (P := P) (w := w) (base := base) (k := 2) F5 GN b3 F3.kp m3 GJ b4 F4.kp m4 mb1 mb2
  exact ok_main (k := 3) F6 GI b2 F2.kp m2 GG b5 F5.kp m5 mc2 mb4
end Sg
open PySem PySem.W PyProof.Rows
set_option maxRecDepth 100000 in
set_option maxHeartbeats 8000000 in
theorem PySem.Challenge.cw_smallgraphs_s05_joined_holds : PySem.Challenge.rw_smallgraphs_s05_joined.Holds := by
  w_on; k_headS; (case hw => exact ⟨[.int 0, .list []], by decide +kernel, by decide +kernel⟩)
  k_fillS
  refine L2.walk_specK (r := PySem.Challenge.rw_smallgraphs_s05_joined) (k := 5) (CX := L2.CX0) (ps := ["n", "rows"]) (sp := Sg.spMain) (by decide +kernel) rfl rfl ⟨rfl, by decide, by decide⟩ (fun w h Y => PySem.W.kIn_of Y) ?F ?S (fun _ _ _ _ z => z)
  case F =>
    intro w mg fa h Y KX G hmg
    refine' Sg.all_mk KX G hmg ?a1 ?l1 ?c1 ?k1 ?a2 ?l2 ?c2 ?k2 ?a3 ?l3 ?c3 ?k3 ?a4 ?l4 ?c4 ?k4 ?a5 ?l5 ?c5 ?k5 ?a6 ?l6 ?c6 ?k6 ?n1 ?n2 ?z1 ?z2 ?z3 ?z4
    (case a1 => k_is)
    (case l1 => k_is)
    (case c1 => k_is)
    (case k1 => k_is)
    (case a2 => k_is)
    (case l2 => k_is)
    (case c2 => k_is)
    (case k2 => k_is)
    (case a3 => k_is)
    (case l3 => k_is)
    (case c3 => k_is)
    (case k3 => k_is)
    (case a4 => k_is)
    (case l4 => k_is)
    (case c4 => k_is)
    (case k4 => k_is)
    (case a5 => k_is)
    (case l5 => k_is)
    (case c5 => k_is)
    (case k5 => k_is)
    (case a6 => k_is)
    (case l6 => k_is)
    (case c6 => k_is)
    (case k6 => k_is)
    (case n1 => k_is)
    (case n2 => k_is)
    (case z1 => k_is)
    (case z2 => k_is)
    (case z3 => k_is)
    (case z4 => k_is)
  case S =>
    intro K H xs a hO hwi hask hx
    obtain ⟨n, ns, u⟩ := a
    cases hx with
    | cons h1 hx =>
      cases hx with
      | cons h2 hx =>
        cases hx
        cases h1
        cases h2 with
        | lst hs ha =>
          have e := L2.ints_dw ns _ ha
          subst e
          have hask' : Sf20Neutral.asked [[4], [n], ns] = true := hask
          have q : (Sf20Neutral.whole32 n && (Sf20Neutral.few n 10 && Sf20Neutral.row ns n 65535)) = true := hask'
          rw [Bool.and_eq_true, Bool.and_eq_true] at q
          obtain ⟨r1, r2⟩ := Sg.row_nat q.2.2
          rw [r1] at hs
          exact ⟨_, Sf20Neutral.nats ns, n, rfl, hs, r2, fun p H' hp => .lst (L2.SqL.of hp) (L2.dw_ints _)⟩
