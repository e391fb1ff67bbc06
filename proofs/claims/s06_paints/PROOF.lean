import PyProof.Rows.All
import Wide.All
import OpenK.AllK
import Wide.FinOn
import PyProof.EqAt
import PyProof.EqKinds
import PyProof.TupleCall
import Open.SpecLaws
import KE.OsGo
import HandS.Base
import HandS.Call
import HandS.List
import HandS.Comp
import HandS.Iter
import HandS.Ends
import HandS.Words
import HandS.WordsList
import HandS.Spec
import HandS.WideBits
import HandS.SortInts
import KE.LtSeq
import PySem.Challenge.RW_smallgraphs_s06_paints
set_option Elab.async false
set_option linter.all false
set_option maxRecDepth 100000
set_option maxHeartbeats 4000000
namespace Sg
open Sf20

/-! ### plain: graphs -/
theorem good_iff (g : Graph) : good g = true ↔ (1 ≤ g.length ∧ g.length ≤ 16) ∧ (∀ i, i < g.length → g.getD i 0 < 2 ^ g.length) ∧
    (∀ i, i < g.length → joined g i i = false) ∧ ∀ i j, i < g.length → j < g.length → joined g i j = joined g j i := by
  have key : (g.all fun r => decide (r < 2 ^ g.length)) = true ↔ ∀ i, i < g.length → g.getD i 0 < 2 ^ g.length := by
    rw [List.all_eq_true]
    constructor
    · intro h i hi
      have e : g.getD i 0 = g[i] := by simp [hi]
      rw [e]
      exact of_decide_eq_true (h _ (List.getElem_mem hi))
    · intro h r hr
      obtain ⟨i, hi, rfl⟩ := List.getElem_of_mem hr
      have e : g.getD i 0 = g[i] := by simp [hi]
      have q := h i hi
      rw [e] at q
      exact decide_eq_true q
  unfold good
  rw [Bool.and_eq_true, Bool.and_eq_true, Bool.and_eq_true, key, List.all_eq_true]
  simp only [decide_eq_true_eq, List.mem_range, MOST, Bool.and_eq_true, Bool.not_eq_true', List.all_eq_true, beq_iff_eq]
  constructor
  · rintro ⟨⟨⟨h0, h1⟩, h2⟩, h3⟩
    exact ⟨⟨h0, of_decide_eq_true h1⟩, h2, fun i hi => (h3 i hi).1, fun i j hi hj => (h3 i hi).2 j hj⟩
  · rintro ⟨h1, h2, h3, h4⟩
    exact ⟨⟨⟨h1.1, decide_eq_true h1.2⟩, h2⟩, fun i hi => ⟨h3 i hi, fun j hj => h4 i j hi hj⟩⟩
theorem good_len {g : Graph} (h : good g = true) : 1 ≤ g.length ∧ g.length ≤ 16 := ((good_iff g).mp h).1
theorem good_no {g : Graph} (h : good g = true) (i : Nat) : joined g i i = false := by
  by_cases hi : i < g.length
  · exact ((good_iff g).mp h).2.2.1 i hi
  · unfold joined
    have e : g.getD i 0 = 0 := by simp [List.getD, List.getElem?_eq_none (Nat.le_of_not_lt hi)]
    rw [e, Nat.zero_testBit]
theorem good_sym {g : Graph} (h : good g = true) {i j : Nat} (hi : i < g.length) (hj : j < g.length) : joined g i j = joined g j i := ((good_iff g).mp h).2.2.2 i j hi hj
/-- the bit test of the program -/
theorem bit_joined (r j : Nat) : decide (((r : Int) / 2 ^ j) % 2 = 1) = r.testBit j := by
  rw [Nat.testBit_eq_decide_div_mod_eq]
  have e : ((r : Int) / 2 ^ j) % 2 = ((r / 2 ^ j % 2 : Nat) : Int) := by
    rw [Int.natCast_emod, Int.natCast_ediv, Int.natCast_pow]; rfl
  rw [e]
  exact decide_eq_decide.mpr (by omega)
theorem take_more {α : Type} {l : List α} {i : Nat} {x : α} (h : l[i]? = some x) : l.take (i + 1) = l.take i ++ [x] := by
  rw [List.take_add_one, h]; rfl
end Sg
namespace Sg
open Sf20
/-! ### plain: paints -/
def fits (g : Graph) (c : Row) (p : Nat) : Bool := (List.range c.length).all fun (j : Nat) => !joined g c.length j || c.getD j 0 != p
theorem on_zero (g : Graph) (k : Nat) (c : Row) : paintOn g k 0 c = some c := rfl
theorem on_succ (g : Graph) (k f : Nat) (c : Row) : paintOn g k (f + 1) c = (List.range k).findSome? fun p => if fits g c p = true then paintOn g k f (c ++ [p]) else none := rfl
/-- what has been looked through so far gives none -/
def upTo (g : Graph) (k f : Nat) (c : Row) (i : Nat) : Option Row := (List.range i).findSome? fun p => if fits g c p = true then paintOn g k f (c ++ [p]) else none
theorem upTo_zero (g : Graph) (k f : Nat) (c : Row) : upTo g k f c 0 = none := rfl
theorem upTo_succ {g : Graph} {k f : Nat} {c : Row} {i : Nat} (h : upTo g k f c i = none) : upTo g k f c (i + 1) = if fits g c i = true then paintOn g k f (c ++ [i]) else none := by
  unfold upTo at h ⊢
  rw [List.range_succ, List.findSome?_append, h, Option.none_or, List.findSome?_cons, List.findSome?_nil]
  cases (if fits g c i = true then paintOn g k f (c ++ [i]) else none) <;> rfl
theorem find_pre {α β : Type} {h : α → Option β} : ∀ {l m : List α} {x : β}, l.findSome? h = some x → (l ++ m).findSome? h = some x
  | l, m, x, e => by rw [List.findSome?_append, e]; rfl
theorem upTo_some {g : Graph} {k f : Nat} {c : Row} {i : Nat} {x : Row} (hi : i ≤ k) (h : upTo g k f c i = some x) : paintOn g k (f + 1) c = some x := by
  rw [on_succ]
  unfold upTo at h
  obtain ⟨d, rfl⟩ : ∃ d, k = i + d := ⟨k - i, by omega⟩
  rw [List.range_add]
  exact find_pre h
theorem upTo_all (g : Graph) (k f : Nat) (c : Row) : upTo g k f c k = paintOn g k (f + 1) c := rfl
theorem on_len {g : Graph} {k : Nat} : ∀ {f : Nat} {c x : Row}, paintOn g k f c = some x → x.length = c.length + f
  | 0, c, x, h => by cases h; rfl
  | f + 1, c, x, h => by
    rw [on_succ] at h
    obtain ⟨p, _, q⟩ := List.exists_of_findSome?_eq_some h
    by_cases e : fits g c p = true
    · rw [if_pos e] at q
      have z := on_len q
      rw [List.length_append, List.length_singleton] at z
      omega
    · rw [if_neg e] at q
      cases q
theorem on_lt {g : Graph} {k : Nat} : ∀ {f : Nat} {c x : Row}, (∀ p, p ∈ c → p < k) → paintOn g k f c = some x → ∀ p, p ∈ x → p < k
  | 0, c, x, hc, h => by cases h; exact hc
  | f + 1, c, x, hc, h => by
    rw [on_succ] at h
    obtain ⟨p, hp, q⟩ := List.exists_of_findSome?_eq_some h
    by_cases e : fits g c p = true
    · rw [if_pos e] at q
      refine on_lt (fun y hy => ?_) q
      rcases List.mem_append.mp hy with z | z
      · exact hc y z
      · rw [List.mem_singleton.mp z]
        exact List.mem_range.mp hp
    · rw [if_neg e] at q
      cases q
/-- some number below n isn't in a list that is shorter -/
theorem pigeon {n : Nat} {c : List Nat} (h : c.length < n) : ∃ p, p < n ∧ p ∉ c := by
  rcases Classical.em (∃ p, p < n ∧ p ∉ c) with q | q
  · exact q
  · have sub : ∀ p, p ∈ List.range n → p ∈ c := fun p hp => by
      rcases Classical.em (p ∈ c) with z | z
      · exact z
      · exact absurd ⟨p, List.mem_range.mp hp, z⟩ q
    have l := (List.nodup_range (n := n)).length_le_of_subset sub
    rw [List.length_range] at l
    omega
theorem fits_fresh {g : Graph} {c : Row} {p : Nat} (h : p ∉ c) : fits g c p = true := by
  unfold fits
  rw [List.all_eq_true]
  intro j hj
  have hj' := List.mem_range.mp hj
  have e : c.getD j 0 = c[j] := by simp [hj']
  rw [Bool.or_eq_true]
  right
  rw [e]
  exact bne_iff_ne.mpr fun z => h (z ▸ List.getElem_mem hj')
/-- with as many paints as nodes there is a way -/
theorem on_full (g : Graph) (n : Nat) : ∀ (f : Nat) (c : Row), c.length + f ≤ n → (paintOn g n f c).isSome = true
  | 0, c, _ => rfl
  | f + 1, c, h => by
    rw [on_succ]
    obtain ⟨p, hp, hn⟩ := pigeon (n := n) (c := c) (by omega)
    rw [List.findSome?_isSome_iff]
    refine ⟨p, List.mem_range.mpr hp, ?_⟩
    rw [if_pos (fits_fresh hn)]
    exact on_full g n f (c ++ [p]) (by rw [List.length_append, List.length_singleton]; omega)
theorem find_at {β : Type} {h : Nat → Option β} {x : β} {n : Nat} : ∀ {k : Nat}, (∀ j, j < k → h j = none) → h k = some x → k < n → (List.range n).findSome? h = some x := by
  intro k h1 h2 h3
  obtain ⟨d, rfl⟩ : ∃ d, n = (k + 1) + d := ⟨n - (k + 1), by omega⟩
  rw [List.range_add]
  refine find_pre ?_
  rw [List.range_succ, List.findSome?_append]
  have z : (List.range k).findSome? h = none := by
    rw [List.findSome?_eq_none_iff]
    exact fun j hj => h1 j (List.mem_range.mp hj)
  rw [z]
  show [k].findSome? h = some x
  rw [List.findSome?_cons, h2]
theorem no_paint {g : Graph} (h : 1 ≤ g.length) : paintOn g 0 g.length [] = none := by
  obtain ⟨f, hf⟩ : ∃ f, g.length = f + 1 := ⟨g.length - 1, by omega⟩
  rw [hf, on_succ]
  rfl
theorem paints_at {g : Graph} {k : Nat} {c : Row} (h0 : 1 ≤ g.length) (h1 : ∀ j, 1 ≤ j → j < k → paintOn g j g.length [] = none) (h2 : paintOn g k g.length [] = some c) (h3 : k ≤ g.length) : paintsOf g = (k, c) := by
  unfold paintsOf
  have z : (List.range (g.length + 1)).findSome? (fun (k : Nat) => (paintOn g k g.length []).map fun (c : Row) => (k, c)) = some (k, c) := by
    refine find_at (k := k) (fun j hj => ?_) ?_ (by omega)
    · show (paintOn g j g.length []).map _ = none
      rcases Nat.eq_zero_or_pos j with e | e
      · subst e
        rw [no_paint h0]; rfl
      · rw [h1 j e hj]; rfl
    · show (paintOn g k g.length []).map _ = _
      rw [h2]; rfl
  rw [z]; rfl
end Sg
/-! ### the walk: words -/
namespace Sg
open PySem PySem.Spec PyProof.Rows L2
def vn (x : Nat) : V := .int (x : Int)
def vs (l : List Nat) : List V := l.map vn
theorem same_upd {H : Hp} {p : Addr} {o : HO} (h : H p = none) : Same H (upd H p o) := fun b x e => by
  rw [upd_ne (ne_of_none e h)]
  exact e
theorem vs_at {l : List Nat} {i : Nat} (h : i < l.length) : atI (vs l) (i : Int) = some (vn (l.getD i 0)) := by
  refine atI_nat ?_
  unfold vs
  rw [List.getElem?_map, List.getElem?_eq_getElem h]
  have e : l.getD i 0 = l[i] := by simp [h]
  rw [e]; rfl
theorem vs_get {l : List Nat} {i : Nat} {x : V} (h : (vs l)[i]? = some x) : ∃ z, l[i]? = some z ∧ x = vn z := by
  unfold vs at h
  rw [List.getElem?_map] at h
  cases e : l[i]? with
  | none => rw [e] at h; cases h
  | some z =>
    rw [e] at h
    exact ⟨z, rfl, (Option.some.inj h).symm⟩
theorem vs_len (l : List Nat) : (vs l).length = l.length := List.length_map _
theorem vs_snoc (l : List Nat) (x : Nat) : vs (l ++ [x]) = vs l ++ [vn x] := by
  unfold vs
  rw [List.map_append]; rfl
theorem vs_flat (l : List Nat) : (vs l).all flatV = true := by
  rw [List.all_eq_true]
  intro x hx
  obtain ⟨z, _, rfl⟩ := List.mem_map.mp hx
  rfl
theorem getD_of {l : List Nat} {i z : Nat} (h : l[i]? = some z) : l.getD i 0 = z := by simp [List.getD, h]
theorem lt_of_get {α : Type} {l : List α} {i : Nat} {z : α} (h : l[i]? = some z) : i < l.length := by
  rcases Nat.lt_or_ge i l.length with q | q
  · exact q
  · rw [List.getElem?_eq_none q] at h; cases h
theorem vn_eq (a b : Nat) : decide (vn a = vn b) = (a == b) := by
  by_cases e : a = b
  · subst e; simp
  · have h : ¬ vn a = vn b := fun q => e (by injection q with q; exact Int.ofNat.inj q)
    rw [decide_eq_false h]
    exact (beq_eq_false_iff_ne.mpr e).symm
theorem small {n : Nat} (h : n ≤ 16000000) : n < sizeLine := Nat.lt_of_le_of_lt h (by decide)
theorem bang_t {b : Bool} (h : (!b) = true) : b = false := by
  cases b with
  | false => rfl
  | true => cases h
theorem bang_f {b : Bool} (h : ¬ (!b) = true) : b = true := by
  cases b with
  | false => exact absurd rfl h
  | true => rfl
/-! ### the text -/
def top (i : Nat) : Stmt := PySem.Challenge.pw_smallgraphs_s06_paints.main.body.getD i (.Pass ⟨0, 0, 0, 0⟩)
abbrev sAre : Stmt := top 2
abbrev sIsg : Stmt := top 3
def spAre (K : PySem.W.Frag) : Sp := fun xs H Q _ => ∃ (a : Addr) (g : List Nat) (i j : Nat), xs = [.ref a, vn i, vn j] ∧ SqL K H a (vs g) ∧ i < g.length ∧ Q (.bl (Sf20.joined g i j)) H
def spIsg (K : PySem.W.Frag) : Sp := fun xs H Q _ => ∃ (a : Addr) (g : List Nat) (n : Int), xs = [.int n, .ref a] ∧ SqL K H a (vs g) ∧ (1 ≤ n → n ≤ 16 → (g.length : Int) = n) ∧ Q (.bl (Sf20.count n && Sf20.good g)) H
theorem scAre : FnScope ["rows", "i", "j"] ["rows", "i", "j"] (defScope sAre) := ⟨rfl, rfl, rfl, by decide +kernel, rfl, by decide +kernel, by decide +kernel⟩
theorem scIsg : FnScope ["n", "rows", "i", "j"] ["n", "rows"] (defScope sIsg) := ⟨rfl, rfl, rfl, by decide +kernel, rfl, by decide +kernel, by decide +kernel⟩
section
variable {P : Program} {w : World} {K : PySem.W.Frag} {mg : Str → Option Value} {base : Heap}
theorem ok_are {f : Addr} {fd : FuncData} (F : Fun K "are_joined" "are_joined" sAre f fd) : FnOk P w K mg base CX0 1 f fd ["rows", "i", "j"] (spAre K) := by
  refine F.ok scAre (fun xs H Q E h => ?_) (fun cdv A outer s H xs Q E hr h => ?_)
  · obtain ⟨a, g, i, j, rfl, _⟩ := h
    rfl
  obtain ⟨a, g, i, j, rfl, hS, hi, q⟩ := h
  refine ⟨_, pss_one (ps_ret (pe_cmpR op_eq (pe_op op_odd (pe_op op_shrN (pe_ix ix_list (pv 0) (pv 1) (fun _ _ => rfl)) (pv 2)) pe_int) pe_int (nomark _))), ?_⟩
  refine ⟨_, rfl, _, rfl, a, _, _, _, rfl, rfl, hS, vs_at hi, _, rfl, _, j, rfl, rfl, g.getD i 0 / 2 ^ j, ?_, rfl, rfl, ?_⟩
  · rw [Int.natCast_ediv, Int.natCast_pow]; rfl
  · have e : decide (V.int ((g.getD i 0 / 2 ^ j % 2 : Nat) : Int) = V.int 1) = Sf20.joined g i j := by
      have z := vn_eq (g.getD i 0 / 2 ^ j % 2) 1
      unfold Sf20.joined
      rw [Nat.testBit_eq_decide_div_mod_eq]
      exact z.trans (by rw [Bool.eq_iff_iff]; simp)
    show Q (.bl (decide (V.int ((g.getD i 0 / 2 ^ j % 2 : Nat) : Int) = V.int 1))) H
    rw [e]
    exact q
theorem ok_isg {f fA : Addr} {fd fdA : FuncData} {k : Nat} {t16 : Tok} (F : Fun K "is_graph" "is_graph" sIsg f fd) (FA : Fun K "are_joined" "are_joined" sAre fA fdA) (bA : Binds K fdA ["rows", "i", "j"] []) (mA : mg "are_joined" = some (.ref fA))
    (mN : mg "NODES_AT_MOST" = some (.int 16 t16)) (mr : mg "range" = none) : FnOk P w K mg base CX0 (k + 2) f fd ["n", "rows"] (spIsg K) := by
  have GA : FnOk P w K mg base CX0 (k + 1) fA fdA ["rows", "i", "j"] (spAre K) := (ok_are FA).mono (by omega)
  refine F.ok scIsg (fun xs H Q E h => ?_) (fun cdv A outer s H xs Q E hr h => ?_)
  · obtain ⟨a, g, n, rfl, _⟩ := h
    rfl
  obtain ⟨a, g, n, rfl, hS, hn, q⟩ := h
  refine ⟨_, pss_cons (ps_if (PW.pt (pw_or (pt_cmpR op_lt (pv 0) pe_int (nomark _)) (pw_or1 (pt_cmpR op_gt (pv 0) (pe_glob (v := .int 16) rfl mN ⟨_, rfl⟩) (nomark _))))) (pss_one (ps_ret pe_bl)) pss_nil)
    (pss_cons (ps_for PassesOwn.never rfl (pi_range1 rfl mr (pa_cons (pv 0) pa_nil)) (pg_name (i := 2) scIsg.nd rfl (.inl rfl))
      (pss_cons (ps_if (PW.pt (pw_or (pt_cmpR op_ge (pe_ix ix_list (pv 1) (pv 2) (fun _ _ => rfl)) (pe_op op_oneShl pe_int (pv 0)) (nomark _))
          (pw_or1 (pt_val (pe_call GA hr rfl mA FA.kp bA .nil pass0 (pa_cons (pv 1) (pa_cons (pv 2) (pa_cons (pv 2) pa_nil)))))))) (pss_one (ps_ret pe_bl)) pss_nil)
        (pss_one (ps_for PassesOwn.never rfl (pi_range1 rfl mr (pa_cons (pv 0) pa_nil)) (pg_name (i := 3) scIsg.nd rfl (.inl rfl))
          (pss_one (ps_if (pt_cmpR op_ne (pe_call GA hr rfl mA FA.kp bA .nil pass0 (pa_cons (pv 1) (pa_cons (pv 2) (pa_cons (pv 3) pa_nil))))
            (pe_call GA hr rfl mA FA.kp bA .nil pass0 (pa_cons (pv 1) (pa_cons (pv 3) (pa_cons (pv 2) pa_nil)))) (nomark _)) (pss_one (ps_ret pe_bl)) pss_nil))))))
    (pss_one (ps_ret pe_bl))), ?_⟩
  -- n < 1 or n > 16
  refine ⟨_, rfl, _, _, rfl, rfl, _, rfl, ite2 (fun c => ?_) (fun c => ?_)⟩
  · refine iteT ?_
    have c' : n < 1 := of_decide_eq_true c
    have e : Sf20.count n = false := by
      unfold Sf20.count
      rw [decide_eq_false (by omega : ¬ 1 ≤ n), Bool.false_and]
    rw [e, Bool.false_and] at q
    exact q
  have c1 : ¬ n < 1 := fun z => c (decide_eq_true z)
  refine ⟨_, rfl, _, _, rfl, rfl, _, rfl, ite2 (fun c => ?_) (fun c => ?_)⟩
  · have c' : 16 < n := of_decide_eq_true c
    have e : Sf20.count n = false := by
      unfold Sf20.count
      rw [decide_eq_false (by show ¬ n ≤ ((16 : Nat) : Int); omega : ¬ n ≤ (Sf20.MOST : Int)), Bool.and_false]
    rw [e, Bool.false_and] at q
    exact q
  have c2 : ¬ 16 < n := fun z => c (decide_eq_true z)
  obtain ⟨m, rfl⟩ : ∃ m : Nat, n = (m : Int) := ⟨n.toNat, by omega⟩
  have hl : g.length = m := by have := hn (by omega) (by omega); omega
  have ec : Sf20.count (m : Int) = true := by
    unfold Sf20.count
    rw [decide_eq_true (by omega : 1 ≤ (m : Int)), decide_eq_true (by show (m : Int) ≤ ((16 : Nat) : Int); omega : (m : Int) ≤ (Sf20.MOST : Int))]; rfl
  rw [ec, Bool.true_and] at q
  have bad : Sf20.good g = false → Q (.bl false) H := fun e => by rw [e] at q; exact q
  -- for i in range(n)
  refine ⟨_, rfl, (m : Int), rfl, by omega, by omega, for_range (lo := 0) (n := (m : Int).toNat) (fun i σ H' => ∃ v2 v3 : Option V, σ = [some (.int (m : Int)), some (.ref a), v2, v3] ∧ H' = H ∧
    ∀ i', i' < i → g.getD i' 0 < 2 ^ m ∧ Sf20.joined g i' i' = false ∧ ∀ j, j < m → Sf20.joined g i' j = Sf20.joined g j i') ⟨none, none, rfl, rfl, fun i' h => absurd h (Nat.not_lt_zero _)⟩ ?_ ?_⟩
  · rintro i σ H' hi ⟨v2, v3, rfl, rfl, inv⟩
    have hi' : i < m := by omega
    have hig : i < g.length := by omega
    have ei : (V.int (0 + (i : Int))) = vn i := by unfold vn; rw [Int.zero_add]
    rw [ei]
    refine ⟨_, rfl, _, rfl, a, _, _, _, rfl, rfl, hS, vs_at hig, _, rfl, m, rfl, rfl, by omega, _, _, rfl, rfl, _, rfl, ite2 (fun c => ?_) (fun c => ?_)⟩
    · refine iteT (bad (Bool.eq_false_iff.mpr fun z => ?_))
      have c' := of_decide_eq_true c
      have lt := ((good_iff g).mp z).2.1 i hig
      rw [hl] at lt
      have lt' : ((g.getD i 0 : Nat) : Int) < 2 ^ m := by exact_mod_cast lt
      omega
    have c3 : g.getD i 0 < 2 ^ m := by
      have c' : ¬ ((2 : Int) ^ m ≤ ((g.getD i 0 : Nat) : Int)) := fun z => c (decide_eq_true z)
      have c'' : ((g.getD i 0 : Nat) : Int) < 2 ^ m := by omega
      exact_mod_cast c''
    refine ⟨_, rfl, _, rfl, _, rfl, a, g, i, i, rfl, hS, hig, _, rfl, ite2 (fun c => ?_) (fun c => ?_)⟩
    · exact bad (Bool.eq_false_iff.mpr fun z => by rw [((good_iff g).mp z).2.2.1 i hig] at c; cases c)
    have c4 : Sf20.joined g i i = false := Bool.eq_false_iff.mpr c
    -- for j in range(n)
    refine ⟨_, rfl, (m : Int), rfl, by omega, by omega, for_range (lo := 0) (n := (m : Int).toNat) (fun j σ H'' => ∃ v3 : Option V, σ = [some (.int (m : Int)), some (.ref a), some (vn i), v3] ∧ H'' = H' ∧
      ∀ j', j' < j → Sf20.joined g i j' = Sf20.joined g j' i) ⟨v3, rfl, rfl, fun j' h => absurd h (Nat.not_lt_zero _)⟩ ?_ ?_⟩
    · rintro j σ H'' hj ⟨v3, rfl, rfl, inv2⟩
      have hj' : j < m := by omega
      have hjg : j < g.length := by omega
      have ej : (V.int (0 + (j : Int))) = vn j := by unfold vn; rw [Int.zero_add]
      rw [ej]
      refine ⟨_, rfl, _, rfl, _, rfl, a, g, i, j, rfl, hS, hig, _, rfl, _, rfl, _, rfl, a, g, j, i, rfl, hS, hjg, rfl, _, rfl, ?_⟩
      have e : (!decide (V.bl (Sf20.joined g i j) = V.bl (Sf20.joined g j i))) = !(Sf20.joined g i j == Sf20.joined g j i) := by
        cases Sf20.joined g i j <;> cases Sf20.joined g j i <;> rfl
      refine ite2 (fun c => ?_) (fun c => ?_)
      · rw [e] at c
        exact bad (Bool.eq_false_iff.mpr fun z => by rw [good_sym z hig hjg] at c; simp at c)
      · rw [e] at c
        have c5 : Sf20.joined g i j = Sf20.joined g j i := by simpa using c
        refine ⟨_, rfl, rfl, fun j' h => ?_⟩
        rcases Nat.lt_or_ge j' j with z | z
        · exact inv2 j' z
        · have z' : j' = j := by omega
          subst z'
          exact c5
    · rintro σ H'' ⟨v3, rfl, rfl, inv2⟩
      refine ⟨_, _, rfl, rfl, fun i' h => ?_⟩
      rcases Nat.lt_or_ge i' i with z | z
      · exact inv i' z
      · have z' : i' = i := by omega
        subst z'
        exact ⟨c3, c4, fun j h => inv2 j (by omega)⟩
  · rintro σ H' ⟨v2, v3, rfl, rfl, inv⟩
    have e : Sf20.good g = true := (good_iff g).mpr ⟨by omega, fun i hi => by rw [hl]; exact (inv i (by omega)).1, fun i hi => (inv i (by omega)).2.1, fun i j hi hj => (inv i (by omega)).2.2 j (by omega)⟩
    rw [e] at q
    exact q
end
end Sg
/-! ### the request and the answer -/
namespace Sg
open PySem PySem.Spec PyProof.Rows L2
def ans (y : Sf20.Ans) : List Int := y.v :: y.l.map fun (x : Nat) => (x : Int)
theorem ans_vs (n : Nat) (l : List Nat) : (ans ⟨(n : Int), l⟩).map V.int = vs (n :: l) := by
  unfold ans vs
  rw [List.map_cons, List.map_map, List.map_cons]; rfl
theorem row_nat {l : List Int} {n top : Int} (h : Sf20Neutral.row l n top = true) : l.map V.int = vs (Sf20Neutral.nats l) ∧ (1 ≤ n → n ≤ 16 → ((Sf20Neutral.nats l).length : Int) = n) := by
  unfold Sf20Neutral.row at h
  rw [Bool.and_eq_true, List.all_eq_true] at h
  obtain ⟨h1, h2⟩ := h
  constructor
  · unfold vs Sf20Neutral.nats
    rw [List.map_map]
    refine List.map_congr_left fun x hx => ?_
    have q := h1 x hx
    unfold Sf20Neutral.within at q
    rw [Bool.and_eq_true] at q
    have q' := of_decide_eq_true q.1
    show V.int x = vn x.toNat
    unfold vn
    rw [Int.toNat_of_nonneg q']
  · intro a b
    have h2' := of_decide_eq_true h2
    rw [if_pos ⟨a, b⟩] at h2'
    unfold Sf20Neutral.nats
    rw [List.length_map]
    exact h2'
end Sg
/-! ### the walk: paints -/
namespace Sg
open PySem PySem.Spec PyProof.Rows L2
abbrev sFp : Stmt := top 5
abbrev sFew : Stmt := top 6
abbrev sMain : Stmt := top 9
/-- None, or a list -/
def found (H : Hp) (v : V) : Option (List Nat) → Prop
  | none => v = .non
  | some x => ∃ p, v = .ref p ∧ H p = some (.lst (vs x))
abbrev nFp : List Str := ["rows", "paints", "most", "node", "paint", "clashes", "found", "other"]
def spFp (K : PySem.W.Frag) (n : Nat) : Sp := fun xs H Q _ => ∃ (a b : Addr) (g c : List Nat) (k f : Nat), xs = [.ref a, .ref b, vn k] ∧ SqL K H a (vs g) ∧ H b = some (.lst (vs c)) ∧ c.length + f = g.length ∧ f < n ∧ g.length ≤ 16 ∧ k ≤ 16 ∧
  ∀ v H', Same H H' → found H' v (Sf20.paintOn g k f c) → Q v H'
def spFew (K : PySem.W.Frag) : Sp := fun xs H Q _ => ∃ (a : Addr) (g : List Nat), xs = [.ref a] ∧ SqL K H a (vs g) ∧ Sf20.good g = true ∧ ∀ p H', Same H H' → H' p = some (.lst (vs ((Sf20.paintsOf g).1 :: (Sf20.paintsOf g).2))) → Q (.ref p) H'
def spMain (K : PySem.W.Frag) : Sp := fun xs H Q _ => ∃ (a : Addr) (g : List Nat) (n : Int), xs = [.int n, .ref a] ∧ SqL K H a (vs g) ∧ (1 ≤ n → n ≤ 16 → (g.length : Int) = n) ∧ ∀ p H', H' p = some (.lst ((ans (Sf20.does (.paints n g))).map V.int)) → Q (.ref p) H'
theorem scFp : FnScope nFp ["rows", "paints", "most"] (defScope sFp) := ⟨rfl, rfl, rfl, by decide +kernel, rfl, by decide +kernel, by decide +kernel⟩
theorem scFew : FnScope ["rows", "most", "found"] ["rows"] (defScope sFew) := ⟨rfl, rfl, rfl, by decide +kernel, rfl, by decide +kernel, by decide +kernel⟩
theorem scMain : FnScope ["n", "rows"] ["n", "rows"] (defScope sMain) := ⟨rfl, rfl, rfl, by decide +kernel, rfl, by decide +kernel, by decide +kernel⟩
/-- what clashes -/
def clash (g c : List Nat) (p i : Nat) : List Nat := (List.range i).filter fun o => (c.getD o 0 == p) && Sf20.joined g c.length o
theorem clash_none (g c : List Nat) (p : Nat) : (clash g c p c.length).isEmpty = fits g c p := by
  unfold clash fits
  rw [Bool.eq_iff_iff, List.isEmpty_iff, List.filter_eq_nil_iff, List.all_eq_true]
  refine forall_congr' fun o => forall_congr' fun _ => ?_
  cases Sf20.joined g c.length o <;> simp
theorem clash_le (g c : List Nat) (p i : Nat) : (clash g c p i).length ≤ i := by
  have l : (clash g c p i).length ≤ (List.range i).length := List.length_filter_le _ _
  rw [List.length_range] at l
  exact l
theorem vs_empty (l : List Nat) : (vs l).isEmpty = l.isEmpty := by cases l <;> rfl
section
variable {P : Program} {w : World} {K : PySem.W.Frag} {mg : Str → Option Value} {base : Heap}
theorem ok_fp {f fA : Addr} {fd fdA : FuncData} {n : Nat} (F : Fun K "first_paints" "first_paints" sFp f fd) (FA : Fun K "are_joined" "are_joined" sAre fA fdA) (bA : Binds K fdA ["rows", "i", "j"] []) (mA : mg "are_joined" = some (.ref fA))
    (G : FnOk P w K mg base CX0 (n + 1) f fd ["rows", "paints", "most"] (spFp K n)) (bF : Binds K fd ["rows", "paints", "most"] []) (mF : mg "first_paints" = some (.ref f)) (ml : mg "len" = none) (mr : mg "range" = none) :
    FnOk P w K mg base CX0 (n + 2) f fd ["rows", "paints", "most"] (spFp K (n + 1)) := by
  have GA : FnOk P w K mg base CX0 (n + 1) fA fdA ["rows", "i", "j"] (spAre K) := (ok_are FA).mono (by omega)
  refine F.ok scFp (fun xs H Q E h => ?_) (fun cdv A outer s H xs Q E hr h => ?_)
  · obtain ⟨a, b, g, c, k, f, rfl, _⟩ := h
    rfl
  obtain ⟨a, b, g, c, k, f', rfl, hS, hB, hf, hfn, g16, k16, q⟩ := h
  refine ⟨_, pss_cons (ps_set (i := 3) scFp.nd rfl (.inr rfl) (pe_callB call_len_seq rfl ml PySem.boot_len (pa_cons (pv 1) pa_nil)))
    (pss_cons (ps_if (pt_cmpR op_eq (pv 3) (pe_callB call_len_seq rfl ml PySem.boot_len (pa_cons (pv 0) pa_nil)) (nomark _)) (pss_one (ps_ret (pv 1))) pss_nil)
    (pss_cons (ps_for PassesOwn.never rfl (pi_range1 rfl mr (pa_cons (pv 2) pa_nil)) (pg_name (i := 4) scFp.nd rfl (.inr rfl))
      (pss_cons (ps_setLc (i := 5) (own := [("other", 7)]) (g := gName 7) rfl scFp.nd rfl rfl (sw_true rfl rfl rfl (by decide +kernel)) (pi_range1 rfl mr (pa_cons (pv 3) pa_nil))
          (blkOk_by (own := [("other", 7)]) (N := nFp) (sc := defScope sFp) (by decide +kernel)) (fun _ _ _ _ _ => pg_name (i := 7) scFp.nd rfl (Or.inl rfl))
          (fun _ _ _ _ _ => pts_one (PW.pt (pw_and (pt_cmpR op_eq (pe_ix (r := rIxL K) ix_list (pv 1) (pv 7) (fun _ _ => rfl)) (pv 4) (nomark _)) (pw_and1 (pt_val (pe_call GA hr rfl mA FA.kp bA .nil pass0 (pa_cons (pv 0) (pa_cons (pv 3) (pa_cons (pv 7) pa_nil)))))))))
          (fun _ _ _ _ _ => pv 7))
      (pss_one (ps_if (pt_not (pt_truth (pv 5) (by intro _; rfl)))
        (pss_cons (ps_set (i := 6) scFp.nd rfl (.inl rfl) (pe_call G hr rfl mF F.kp bF .nil pass0 (pa_cons (pv 0) (pa_cons (pe_op op_cat (pv 1) (pe_lst (pa_cons (pv 4) pa_nil))) (pa_cons (pv 2) pa_nil)))))
        (pss_one (ps_if (pt_cmp (pc_notN (pv 6))) (pss_one (ps_ret (pv 6))) pss_nil))) pss_nil))))
    (pss_one (ps_ret pe_non)))), ?_⟩
  -- node = len(paints); if node == len(rows)
  refine ⟨_, rfl, b, _, rfl, .inl (SqL.of hB), ?_⟩
  rw [vs_len]
  refine ⟨_, rfl, _, rfl, a, _, rfl, .inl hS, rfl, ?_⟩
  rw [vs_len]
  refine ⟨_, rfl, ?_⟩
  have e0 : decide (V.int (c.length : Int) = V.int (g.length : Int)) = (c.length == g.length) := vn_eq _ _
  rw [e0]
  refine ite2 (fun cc => ?_) (fun cc => ?_)
  · have cc' : c.length = g.length := eq_of_beq cc
    have ef : f' = 0 := by omega
    subst ef
    exact ⟨_, rfl, q _ _ (Same.refl H) ⟨b, rfl, hB⟩⟩
  have cc' : c.length ≠ g.length := fun z => cc (beq_iff_eq.mpr z)
  obtain ⟨f2, rfl⟩ : ∃ f2, f' = f2 + 1 := ⟨f' - 1, by omega⟩
  have hcg : c.length < g.length := by omega
  -- for paint in range(most)
  refine ⟨_, rfl, (k : Int), rfl, by omega, by omega, for_range (lo := 0) (n := (k : Int).toNat) (fun i σ H' => ∃ v4 v5 v6 v7 : Option V, σ = [some (.ref a), some (.ref b), some (vn k), some (vn c.length), v4, v5, v6, v7] ∧ Same H H' ∧ upTo g k f2 c i = none)
    ⟨none, none, none, none, rfl, Same.refl H, rfl⟩ ?_ ?_⟩
  · rintro i σ H' hi ⟨v4, v5, v6, v7, rfl, sm, inv⟩
    have hik : i < k := by omega
    have ei : (V.int (0 + (i : Int))) = vn i := by unfold vn; rw [Int.zero_add]
    rw [ei]
    refine ⟨_, rfl, (c.length : Int), rfl, by omega, by omega, fun D hD => ?_⟩
    refine lc_range (lo := 0) (n := (c.length : Int).toNat) (fun j H'' => Same H' H'' ∧ H'' D = some (.lst (vs (clash g c i j)))) ⟨same_upd hD, upd_same⟩ ?_ ?_
    · rintro j H'' hj ⟨sm2, hd⟩
      have hjc : j < c.length := by omega
      have ej : (V.int (0 + (j : Int))) = vn j := by unfold vn; rw [Int.zero_add]
      rw [ej]
      have hB2 := sm2 _ _ (sm _ _ hB)
      have smA := sm.trans sm2
      have next : ∀ t : Bool, ((c.getD j 0 == i) && Sf20.joined g c.length j) = t → (vs (clash g c i (j + 1))) = vs (clash g c i j) ++ (if t = true then [vn j] else []) := fun t et => by
        unfold clash
        rw [List.range_succ, List.filter_append, List.filter_cons, List.filter_nil, et]
        cases t with
        | true => rw [if_pos rfl, if_pos rfl, vs_snoc]
        | false => rw [if_neg Bool.false_ne_true, if_neg Bool.false_ne_true, List.append_nil, List.append_nil]
      refine ⟨rfl, _, rfl, _, rfl, b, _, _, _, rfl, rfl, SqL.of hB2, vs_at hjc, _, rfl, rfl, _, rfl, ?_⟩
      rw [vn_eq]
      refine ite2 (fun d => ?_) (fun d => ?_)
      · refine ⟨_, rfl, _, rfl, _, rfl, a, g, c.length, j, rfl, smA.seq hS, hcg, _, rfl, ite2 (fun d2 => ?_) (fun d2 => ?_)⟩
        · refine ⟨_, rfl, _, hd, ?_, fun b' o h => ?_, ?_⟩
          · rw [vs_len]
            exact small (by have := clash_le g c i j; omega)
          · rw [upd_ne (ne_of_none h hD)]
            exact sm2 b' o h
          · rw [upd_same, next true (by rw [d, d2]; rfl), if_pos rfl]
        · refine ⟨sm2, ?_⟩
          rw [next false (by rw [d, Bool.true_and]; exact Bool.eq_false_iff.mpr d2), if_neg Bool.false_ne_true, List.append_nil]
          exact hd
      · refine iteF ⟨sm2, ?_⟩
        rw [next false (by rw [Bool.eq_false_iff.mpr d, Bool.false_and]), if_neg Bool.false_ne_true, List.append_nil]
        exact hd
    · rintro H'' ⟨sm2, hd⟩
      rw [Int.toNat_natCast] at hd
      have smA := sm.trans sm2
      refine ⟨_, rfl, !(fits g c i), .inl ⟨_, SqL.of hd, by rw [vs_empty, clash_none]⟩, ?_⟩
      refine ite2 (fun d => ?_) (fun d => ?_)
      · have d : fits g c i = true := by
          rw [Bool.not_not] at d
          exact d
        have hB2 := smA _ _ hB
        refine ⟨_, rfl, _, rfl, _, rfl, by show 1 ≤ sizeLine; decide, fun p hp => ?_⟩
        have s1 : Same H'' (upd H'' p (.lst [vn i])) := same_upd hp
        refine ⟨b, p, vs c, _, rfl, rfl, s1 _ _ hB2, upd_same, ?_, fun r hr' => ?_⟩
        · rw [vs_len]
          exact Nat.le_of_lt (small (by show c.length + 1 ≤ 16000000; omega))
        have s2 := s1.trans (same_upd (o := .lst (vs c ++ [vn i])) hr')
        have s3 : Same H _ := smA.trans s2
        refine ⟨_, rfl, a, r, g, c ++ [i], k, f2, rfl, s3.seq hS, ?_, ?_, by omega, g16, k16, fun v H3 s4 hv => ?_⟩
        · rw [vs_snoc]
          exact upd_same
        · rw [List.length_append, List.length_singleton]; omega
        have step := upTo_succ inv
        rw [if_pos d] at step
        refine ⟨_, rfl, _, rfl, ?_⟩
        cases e : Sf20.paintOn g k f2 (c ++ [i]) with
        | none =>
          rw [e] at hv step
          cases (show v = V.non from hv)
          exact ⟨_, _, _, _, rfl, s3.trans s4, step⟩
        | some x =>
          rw [e] at hv step
          obtain ⟨p3, rfl, hp3⟩ := hv
          refine ⟨_, rfl, q _ _ (s3.trans s4) ?_⟩
          rw [upTo_some (by omega) step]
          exact ⟨p3, rfl, hp3⟩
      · refine ⟨_, _, _, _, rfl, smA, ?_⟩
        rw [Bool.not_not] at d
        rw [upTo_succ inv, if_neg d]
  · rintro σ H' ⟨v4, v5, v6, v7, rfl, sm, inv⟩
    rw [Int.toNat_natCast, upTo_all] at inv
    refine q _ _ sm ?_
    rw [inv]
    rfl
theorem fp_none {f : Addr} {fd : FuncData} : FnOk P w K mg base CX0 1 f fd ["rows", "paints", "most"] (spFp K 0) := by
  have no : ∀ xs H Q E, ¬ spFp K 0 xs H Q E := fun xs H Q E h => by
    obtain ⟨a, b, g, c, k, f, _, _, _, _, z, _⟩ := h
    omega
  exact ⟨fun xs H Q E h => absurd h (no xs H Q E), fun A outer s H args us xs Q E _ _ _ _ h => absurd h (no xs H Q E)⟩
theorem all_fp {f fA : Addr} {fd fdA : FuncData} (F : Fun K "first_paints" "first_paints" sFp f fd) (FA : Fun K "are_joined" "are_joined" sAre fA fdA) (bA : Binds K fdA ["rows", "i", "j"] []) (mA : mg "are_joined" = some (.ref fA))
    (bF : Binds K fd ["rows", "paints", "most"] []) (mF : mg "first_paints" = some (.ref f)) (ml : mg "len" = none) (mr : mg "range" = none) : ∀ n : Nat, FnOk P w K mg base CX0 (n + 1) f fd ["rows", "paints", "most"] (spFp K n)
  | 0 => fp_none
  | n + 1 => ok_fp F FA bA mA (all_fp F FA bA mA bF mF ml mr n) bF mF ml mr
/-- how many paints are left to be tried -/
def left (n : Nat) (σ : L2.St) : Nat := match σ with
  | [_, some (.int k), _] => n - k.toNat
  | _ => 0
theorem ok_few {f fP : Addr} {fd fdP : FuncData} {k : Nat} (F : Fun K "fewest_paints" "fewest_paints" sFew f fd) (G : FnOk P w K mg base CX0 (k + 1) fP fdP ["rows", "paints", "most"] (spFp K 17)) (bP : Binds K fdP ["rows", "paints", "most"] []) (kP : PySem.W.keepIn K (.ref fP) = true)
    (mP : mg "first_paints" = some (.ref fP)) : FnOk P w K mg base CX0 (k + 2) f fd ["rows"] (spFew K) := by
  refine F.ok scFew (fun xs H Q E h => ?_) (fun cdv A outer s H xs Q E hr h => ?_)
  · obtain ⟨a, g, rfl, _⟩ := h
    rfl
  obtain ⟨a, g, rfl, hS, hg, q⟩ := h
  obtain ⟨g1, g16⟩ := good_len hg
  refine ⟨_, pss_cons (ps_set (i := 1) scFew.nd rfl (.inl rfl) pe_int)
    (pss_cons (ps_set (i := 2) scFew.nd rfl (.inl rfl) (pe_call G hr rfl mP kP bP .nil pass0 (pa_cons (pv 0) (pa_cons (pe_lst pa_nil) (pa_cons (pv 1) pa_nil)))))
    (pss_cons (ps_while PassesOwn.never (pt_cmp (pc_isN (pv 2)))
      (pss_cons (ps_aug (i := 1) scFew.nd rfl (.inl rfl) pe_int ip_add)
      (pss_one (ps_set (i := 2) scFew.nd rfl (.inl rfl) (pe_call G hr rfl mP kP bP .nil pass0 (pa_cons (pv 0) (pa_cons (pe_lst pa_nil) (pa_cons (pv 1) pa_nil)))))))) 
    (pss_one (ps_ret (pe_op op_cat (pe_lst (pa_cons (pv 1) pa_nil)) (pv 2)))))), ?_⟩
  refine ⟨_, rfl, Nat.zero_le _, fun p0 hp0 => ⟨_, rfl, a, p0, g, [], 1, g.length, rfl, (same_upd hp0).seq hS, upd_same, by simp, by omega, g16, by decide, fun v H1 s1 hv => ?_⟩⟩
  refine while_by (fun σ H' => ∃ (k : Nat) (v : V), σ = [some (.ref a), some (vn k), some v] ∧ 1 ≤ k ∧ k ≤ g.length ∧ Same H H' ∧ (∀ j, 1 ≤ j → j < k → Sf20.paintOn g j g.length [] = none) ∧ found H' v (Sf20.paintOn g k g.length [])) (fun σ _ => left g.length σ)
    ⟨1, v, rfl, Nat.le_refl _, g1, (same_upd hp0).trans s1, fun j h1 h2 => by omega, hv⟩ ?_ (fun σ H Q Q' h ⟨v, e, c, e2, q⟩ => ⟨v, e, c, e2, h _ _ q⟩)
  rintro σ H' ⟨k', v', rfl, k1, kg, sm, inv, hv'⟩
  refine ⟨_, rfl, _, rfl, ?_⟩
  cases e : Sf20.paintOn g k' g.length [] with
  | none =>
    rw [e] at hv'
    cases (show v' = V.non from hv')
    refine iteT ?_
    have lt : k' < g.length := by
      rcases Nat.lt_or_ge k' g.length with z | z
      · exact z
      · have z' : k' = g.length := by omega
        have y := on_full g g.length g.length [] (by simp)
        rw [z'] at e
        rw [e] at y
        cases y
    refine ⟨_, rfl, _, _, rfl, rfl, ?_⟩
    refine ⟨_, rfl, Nat.zero_le _, fun p hp => ⟨_, rfl, a, p, g, [], k' + 1, g.length, rfl, (sm.trans (same_upd hp)).seq hS, upd_same, by simp, by omega, g16, by omega, fun v H3 s3 hv3 => ?_⟩⟩
    refine ⟨⟨k' + 1, v, rfl, by omega, by omega, (sm.trans (same_upd hp)).trans s3, fun j h1 h2 => ?_, hv3⟩, ?_⟩
    · rcases Nat.lt_or_ge j k' with z | z
      · exact inv j h1 z
      · have z' : j = k' := by omega
        rw [z', e]
    · show g.length - ((k' : Int) + 1).toNat < g.length - (k' : Int).toNat
      omega
  | some x =>
    rw [e] at hv'
    obtain ⟨p, rfl, hp⟩ := hv'
    refine iteF ?_
    refine ⟨_, rfl, by show 1 ≤ sizeLine; decide, fun t ht => ?_⟩
    have s2 : Same H' (upd H' t (.lst [vn k'])) := same_upd ht
    refine ⟨_, rfl, t, p, _, _, rfl, rfl, upd_same, s2 _ _ hp, ?_, fun r hr' => ?_⟩
    · rw [vs_len, on_len e]
      exact Nat.le_of_lt (small (by show 1 + (([] : List Nat).length + g.length) ≤ 16000000; rw [List.length_nil]; omega))
    · refine q r _ ((sm.trans s2).trans (same_upd hr')) ?_
      rw [paints_at g1 inv e kg, upd_same]
      rfl
theorem ok_main {f fI fG : Addr} {fd fdI fdG : FuncData} {k : Nat} {tR : Tok} (F : Fun K "paints" "paints" sMain f fd) (GI : FnOk P w K mg base CX0 (k + 1) fI fdI ["n", "rows"] (spIsg K)) (bI : Binds K fdI ["n", "rows"] []) (kI : PySem.W.keepIn K (.ref fI) = true) (mI : mg "is_graph" = some (.ref fI))
    (GG : FnOk P w K mg base CX0 (k + 1) fG fdG ["rows"] (spFew K)) (bG : Binds K fdG ["rows"] []) (kG : PySem.W.keepIn K (.ref fG) = true) (mG : mg "fewest_paints" = some (.ref fG))
    (mR : mg "REFUSED" = some (.int (-1) tR)) : FnOk P w K mg base CX0 (k + 2) f fd ["n", "rows"] (spMain K) := by
  refine F.ok scMain (fun xs H Q E h => ?_) (fun cdv A outer s H xs Q E hr h => ?_)
  · obtain ⟨a, g, n, rfl, _⟩ := h
    rfl
  obtain ⟨a, g, n, rfl, hS, hn, q⟩ := h
  refine ⟨_, pss_cons (ps_if (pt_not (pt_val (pe_call GI hr rfl mI kI bI .nil pass0 (pa_cons (pv 0) (pa_cons (pv 1) pa_nil))))) (pss_one (ps_ret (pe_lst (pa_cons (pe_glob (v := .int (-1)) rfl mR ⟨_, rfl⟩) pa_nil)))) pss_nil)
    (pss_one (ps_ret (pe_call GG hr rfl mG kG bG .nil pass0 (pa_cons (pv 1) pa_nil)))), ?_⟩
  refine ⟨_, rfl, _, rfl, a, g, n, rfl, hS, hn, _, rfl, ?_⟩
  refine ite2 (fun c => ?_) (fun c => ?_)
  · have c' : (Sf20.count n && Sf20.good g) = false := bang_t c
    refine ⟨by show 1 ≤ sizeLine; decide, fun p hp => q p _ ?_⟩
    have e : Sf20.does (.paints n g) = Sf20.ok (-1) := if_pos c'
    rw [upd_same, e]; rfl
  · have c' : (Sf20.count n && Sf20.good g) = true := bang_f c
    obtain ⟨c1, c2⟩ := Bool.and_eq_true_iff.mp c'
    have e : Sf20.does (.paints n g) = ⟨((Sf20.paintsOf g).1 : Nat), (Sf20.paintsOf g).2⟩ := if_neg (by rw [c']; exact Bool.noConfusion)
    rw [e, ans_vs] at q
    exact ⟨_, rfl, a, g, rfl, hS, c2, fun p H' sm hp => q p H' hp⟩
end
end Sg
/-! ### the end: what the top has left -/
namespace Sg
open PySem PySem.Spec PyProof.Rows L2
theorem all_mk {P : Program} {w : World} {K : PySem.W.Frag} {h : Heap} {mg : Str → Option Value} {fa f1 f2 f3 f4 f5 : Addr} (X : K.In h) (G : h.Ns mainGlobals mg) (hfa : mg "paints" = some (.ref fa))
    {od1 an1 od2 an2 od3 an3 od4 an4 od5 an5 : Option Addr} {sl1 sl2 sl3 sl4 sl5 : Array (Option Value)} {oc1 kV1 dc1 pm1 cd1 ct1 oc2 kV2 dc2 pm2 cd2 ct2 oc3 kV3 dc3 pm3 cd3 ct3 oc4 kV4 dc4 pm4 cd4 ct4 oc5 kV5 dc5 pm5 cd5 ct5 : Value}
    {t1 t2 : Tok}
    (a1 : PySem.W.nsIn K mainGlobals "are_joined" = some (some (.ref f1)))
    (l1 : K.lookup f1 = some ⟨oc1, od1, .func (PySem.W.fnOf "are_joined" "are_joined" (defArgs sAre) (defBody sAre) (defScope sAre) .none kV1 dc1 pm1 an1 cd1 ct1), sl1⟩) (c1 : PySem.W.codeIn K cd1 "are_joined" = true) (k1 : PySem.W.keepIn K (.ref f1) = true)
    (a2 : PySem.W.nsIn K mainGlobals "is_graph" = some (some (.ref f2)))
    (l2 : K.lookup f2 = some ⟨oc2, od2, .func (PySem.W.fnOf "is_graph" "is_graph" (defArgs sIsg) (defBody sIsg) (defScope sIsg) .none kV2 dc2 pm2 an2 cd2 ct2), sl2⟩) (c2 : PySem.W.codeIn K cd2 "is_graph" = true) (k2 : PySem.W.keepIn K (.ref f2) = true)
    (a3 : PySem.W.nsIn K mainGlobals "first_paints" = some (some (.ref f3)))
    (l3 : K.lookup f3 = some ⟨oc3, od3, .func (PySem.W.fnOf "first_paints" "first_paints" (defArgs sFp) (defBody sFp) (defScope sFp) .none kV3 dc3 pm3 an3 cd3 ct3), sl3⟩) (c3 : PySem.W.codeIn K cd3 "first_paints" = true) (k3 : PySem.W.keepIn K (.ref f3) = true)
    (a4 : PySem.W.nsIn K mainGlobals "fewest_paints" = some (some (.ref f4)))
    (l4 : K.lookup f4 = some ⟨oc4, od4, .func (PySem.W.fnOf "fewest_paints" "fewest_paints" (defArgs sFew) (defBody sFew) (defScope sFew) .none kV4 dc4 pm4 an4 cd4 ct4), sl4⟩) (c4 : PySem.W.codeIn K cd4 "fewest_paints" = true) (k4 : PySem.W.keepIn K (.ref f4) = true)
    (a5 : PySem.W.nsIn K mainGlobals "paints" = some (some (.ref f5)))
    (l5 : K.lookup f5 = some ⟨oc5, od5, .func (PySem.W.fnOf "paints" "paints" (defArgs sMain) (defBody sMain) (defScope sMain) .none kV5 dc5 pm5 an5 cd5 ct5), sl5⟩) (c5 : PySem.W.codeIn K cd5 "paints" = true) (k5 : PySem.W.keepIn K (.ref f5) = true)
    (n1 : PySem.W.nsIn K mainGlobals "NODES_AT_MOST" = some (some (.int (16) t1)))
    (n2 : PySem.W.nsIn K mainGlobals "REFUSED" = some (some (.int (-1) t2)))
    (z1 : PySem.W.nsIn K mainGlobals "range" = some none)
    (z2 : PySem.W.nsIn K mainGlobals "len" = some none)
    : ∃ fd : FuncData, (∀ (s : Shared) (us : List Value), us.length = (["n", "rows"] : List Str).length → BindsTo s fd ⟨us, []⟩ ((["n", "rows"] : List Str).zip us)) ∧ ∀ base : Heap, K.In base → base.Ns mainGlobals mg → FnOk P w K mg base CX0 21 fa fd ["n", "rows"] (spMain K) := by
  have e := hfa.symm.trans (PySem.W.mg_of X G a5)
  cases e
  have F1 := fun_mk (st := sAre) l1 c1 k1
  have F2 := fun_mk (st := sIsg) l2 c2 k2
  have F3 := fun_mk (st := sFp) l3 c3 k3
  have F4 := fun_mk (st := sFew) l4 c4 k4
  have F5 := fun_mk (st := sMain) l5 c5 k5
  have b1 := F1.binds (ps := ["rows", "i", "j"]) fun _ _ _ _ _ _ us hl => match us, hl with | [_, _, _], _ => rfl
  have b2 := F2.binds (ps := ["n", "rows"]) fun _ _ _ _ _ _ us hl => match us, hl with | [_, _], _ => rfl
  have b3 := F3.binds (ps := ["rows", "paints", "most"]) fun _ _ _ _ _ _ us hl => match us, hl with | [_, _, _], _ => rfl
  have b4 := F4.binds (ps := ["rows"]) fun _ _ _ _ _ _ us hl => match us, hl with | [_], _ => rfl
  have m1 := PySem.W.mg_of X G a1
  have m2 := PySem.W.mg_of X G a2
  have m3 := PySem.W.mg_of X G a3
  have m4 := PySem.W.mg_of X G a4
  have m5 := PySem.W.mg_of X G a5
  have mc1 := PySem.W.mg_of X G n1
  have mc2 := PySem.W.mg_of X G n2
  have mb1 := PySem.W.mg_none_of X G z1
  have mb2 := PySem.W.mg_none_of X G z2
  refine ⟨PySem.W.fnOf "paints" "paints" (defArgs sMain) (defBody sMain) (defScope sMain) .none kV5 dc5 pm5 an5 cd5 ct5, fun s us hu => match us, hu with | [_, _], _ => .of_eq rfl, fun base _ _ => ?_⟩
  have GI := ok_isg (P := P) (w := w) (base := base) (k := 18) F2 F1 b1 m1 mc1 mb1
  have GP := all_fp (P := P) (w := w) (base := base) F3 F1 b1 m1 b3 m3 mb2 mb1 17
  have GF := ok_few (P := P) (w := w) (base := base) (k := 17) F4 GP b3 F3.kp m3
  exact ok_main (k := 19) F5 GI b2 F2.kp m2 (GF.mono (by decide)) b4 F4.kp m4 mc2
end Sg
open PySem PySem.W PyProof.Rows
set_option maxRecDepth 100000 in
set_option maxHeartbeats 8000000 in
theorem PySem.Challenge.cw_smallgraphs_s06_paints_holds : PySem.Challenge.rw_smallgraphs_s06_paints.Holds := by
  w_on; k_headS; (case hw => exact ⟨[.int 0, .list []], by decide +kernel, by decide +kernel⟩)
  k_fillS
  refine L2.walk_specK (r := PySem.Challenge.rw_smallgraphs_s06_paints) (k := 21) (CX := L2.CX0) (ps := ["n", "rows"]) (sp := Sg.spMain) (by decide +kernel) rfl rfl ⟨rfl, by decide, by decide⟩ (fun w h Y => PySem.W.kIn_of Y) ?F ?S (fun _ _ _ _ z => z)
  case F =>
    intro w mg fa h Y KX G hmg
    refine' Sg.all_mk KX G hmg ?a1 ?l1 ?c1 ?k1 ?a2 ?l2 ?c2 ?k2 ?a3 ?l3 ?c3 ?k3 ?a4 ?l4 ?c4 ?k4 ?a5 ?l5 ?c5 ?k5 ?n1 ?n2 ?z1 ?z2
    (case a1 => k_is)
    (case l1 => k_is)
    (case c1 => k_is)
    (case k1 => k_is)
    (case a2 => k_is)
    (case l2 => k_is)
    (case c2 => k_is)
    (case k2 => k_is)
    (case a3 => k_is)
    (case l3 => k_is)
    (case c3 => k_is)
    (case k3 => k_is)
    (case a4 => k_is)
    (case l4 => k_is)
    (case c4 => k_is)
    (case k4 => k_is)
    (case a5 => k_is)
    (case l5 => k_is)
    (case c5 => k_is)
    (case k5 => k_is)
    (case n1 => k_is)
    (case n2 => k_is)
    (case z1 => k_is)
    (case z2 => k_is)
  case S =>
    intro K H xs a hO hwi hask hx
    obtain ⟨n, ns, u⟩ := a
    cases hx with
    | cons h1 hx =>
      cases hx with
      | cons h2 hx =>
        cases hx
        cases h1
        cases h2 with
        | lst hs ha =>
          have e := L2.ints_dw ns _ ha
          subst e
          have hask' : Sf20Neutral.asked [[5], [n], ns] = true := hask
          have q : (Sf20Neutral.whole32 n && (Sf20Neutral.few n 10 && Sf20Neutral.row ns n 65535)) = true := hask'
          rw [Bool.and_eq_true, Bool.and_eq_true] at q
          obtain ⟨r1, r2⟩ := Sg.row_nat q.2.2
          rw [r1] at hs
          exact ⟨_, Sf20Neutral.nats ns, n, rfl, hs, r2, fun p H' hp => .lst (L2.SqL.of hp) (L2.dw_ints _)⟩
