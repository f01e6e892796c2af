/- Trees, plain laws: how many nodes a tree has, where the tops of its halves stand, what a node's radius says. -/
import Derived.Test.YtebiaodjodlloaaPlainT
import Derived.Test.YtebiaodjodlloaaPlainS2
namespace Go.Proofs.Ytebiaodjodlloaa
set_option linter.unusedVariables false

theorem treeOk_iff {l : List It} {kind : Int} : treeOk l kind = true ↔ storeB l = true ∧ treeKind kind = true := by unfold treeOk; rw [Bool.and_eq_true]
theorem treeV_len {l : List It} {kind : Int} (h : treeOk l kind = true) : (treeV l kind).length = l.length := by
  rw [treeV, if_pos h, nodes_len, treeT, tree_size kind (Nat.le_refl _)]
theorem treeV_few {l : List It} {kind : Int} : (treeV l kind).length ≤ 16 := by
  by_cases h : treeOk l kind = true
  · rw [treeV_len h]; exact storeB_len (treeOk_iff.1 h).1
  · rw [treeV, if_neg h]; simp
theorem treeV_ok {l : List It} {kind : Int} (h : (treeV l kind).length ≠ 0) : treeOk l kind = true := by
  by_cases h' : treeOk l kind = true
  · exact h'
  · rw [treeV, if_neg h'] at h; simp at h
theorem treeV_keys {l : List It} {kind : Int} (h : treeOk l kind = true) : ((treeV l kind).map Nd.key).Perm (l.map It.key) := by
  rw [treeV, if_pos h, nodes_keys]
  exact (tree_perm kind (Nat.le_refl _)).map _
theorem treeV_cons {top : It} {rest : List It} {kind : Int} (h : treeOk (top :: rest) kind = true) :
    treeV (top :: rest) kind = ⟨top.key, radOf kind top.pt (byD kind top.pt rest), (if rest.length = 0 then -1 else 1), (if rest.length ≤ 1 then -1 else 1 + (halfN rest.length : Int))⟩ ::
      ((treeOf kind rest.length ((byD kind top.pt rest).take (halfN rest.length))).nodes 1 ++ (treeOf kind rest.length ((byD kind top.pt rest).drop (halfN rest.length))).nodes (1 + (halfN rest.length : Int))) := by
  have hl := byD_len kind top.pt rest
  have hh := halfN_le rest.length
  have l1 : ((byD kind top.pt rest).take (halfN rest.length)).length = halfN rest.length := by rw [List.length_take]; omega
  have l2 : ((byD kind top.pt rest).drop (halfN rest.length)).length = rest.length - halfN rest.length := by rw [List.length_drop, hl]
  have s1 : (treeOf kind rest.length ((byD kind top.pt rest).take (halfN rest.length))).size = halfN rest.length := by rw [tree_size kind (by omega), l1]
  have e1 : halfN rest.length = 0 ↔ rest.length = 0 := by unfold halfN; omega
  have e2 : rest.length - halfN rest.length = 0 ↔ rest.length ≤ 1 := by unfold halfN; omega
  rw [treeV, if_pos h, treeT, List.length_cons, treeOf, Tr.nodes, s1, tree_ix kind (by omega), tree_ix kind (by omega), l1, l2]
  simp only [Int.zero_add, e1, e2]
/-- The top. -/
theorem treeV_top {l : List It} {kind : Int} (h : (treeV l kind).length ≠ 0) : ∃ (x : It) (r near far : Int), l[0]? = some x ∧ (treeV l kind)[0]? = some ⟨x.key, r, near, far⟩ ∧ (2 ≤ l.length → near = 1 ∧ (l.length = 2 → far = -1) ∧ (l.length ≠ 2 → far = ((l.length / 2 : Nat) : Int) + 1)) := by
  have hk := treeV_ok h
  cases l with
  | nil => rw [treeV_len hk] at h; simp at h
  | cons top rest =>
    rw [treeV_cons hk]
    refine ⟨top, _, _, _, rfl, rfl, fun h2 => ⟨?_, fun h3 => ?_, fun h3 => ?_⟩⟩
    · rw [if_neg]; simp at h2; omega
    · rw [if_pos]; simp at h3; omega
    · simp only [List.length_cons] at h2 h3 ⊢
      rw [if_neg (by omega)]
      unfold halfN; omega
theorem treeOk_take {l : List It} {kind : Int} (h : treeOk l kind = true) (n : Nat) : treeOk (l.take n) kind = true := by
  obtain ⟨h1, h2⟩ := treeOk_iff.1 h
  exact treeOk_iff.2 ⟨storeB_sub h1 (List.take_sublist _ _), h2⟩
theorem treeV_one {x : It} {kind : Int} (h : treeOk [x] kind = true) : treeV [x] kind = [⟨x.key, 0, -1, -1⟩] := by
  rw [treeV_cons h]
  have h0 : byD kind x.pt [] = [] := rfl
  simp [h0, radOf, halfN, treeOf, Tr.nodes]
theorem treeV_two {x y : It} {kind : Int} (h : treeOk [x, y] kind = true) : ∃ nd, treeV [x, y] kind = [⟨x.key, distL kind x.pt y.pt 4, 1, -1⟩, nd] := by
  have hl := treeV_len h
  rw [treeV_cons h] at hl ⊢
  have h0 : byD kind x.pt [y] = [y] := List.perm_singleton.1 (byD_perm kind x.pt [y])
  rw [h0] at hl ⊢
  have hr : radOf kind x.pt [y] = distL kind x.pt y.pt 4 := by simp [radOf, halfN, itI]
  rw [hr]
  match hm : (treeOf kind [y].length ([y].take (halfN [y].length))).nodes 1 ++ (treeOf kind [y].length ([y].drop (halfN [y].length))).nodes (1 + (halfN [y].length : Int)), hl with
  | [nd], _ => exact ⟨nd, rfl⟩
  | [], hl => simp at hl
  | _ :: _ :: _, hl => simp at hl

theorem keysD_inj : ∀ {l : List It}, KeysD l → ∀ {x y : It}, x ∈ l → y ∈ l → x.key = y.key → x = y
  | [], _, x, _, hx, _, _ => by simp at hx
  | a :: l, h, x, y, hx, hy, e => by
    obtain ⟨h1, h2⟩ := List.pairwise_cons.1 h
    rcases List.mem_cons.1 hx with rfl | hx'
    · rcases List.mem_cons.1 hy with rfl | hy'
      · rfl
      · exact absurd e (h1 _ hy')
    · rcases List.mem_cons.1 hy with rfl | hy'
      · exact absurd e.symm (h1 _ hx')
      · exact keysD_inj h2 hx' hy' e
/-- What a node of a tree says. -/
def NodeOk (kind : Int) (l : List It) (full : List Nd) (i : Nat) (nd : Nd) : Prop := ∃ x, x ∈ l ∧ nd.key = x.key ∧
  ((nd.near = -1 ∧ nd.far = -1 ∧ nd.radius = 0) ∨
   (nd.near = (i : Int) + 1 ∧ (∃ y m, y ∈ l ∧ full[i + 1]? = some m ∧ m.key = y.key ∧ distL kind y.pt x.pt 4 ≤ nd.radius) ∧
    (nd.far = -1 ∨ ∃ k : Nat, nd.far = k ∧ i < k ∧ ∃ y m, y ∈ l ∧ full[k]? = some m ∧ m.key = y.key ∧ nd.radius ≤ distL kind y.pt x.pt 4)))
def TOk2 : Tr → Prop
  | .nil => True
  | .node x r n f => (n = .nil → f = .nil ∧ r = 0) ∧ TOk2 n ∧ TOk2 f
theorem tree_ok2 (kind : Int) : ∀ (n : Nat) (l : List It), l.length ≤ n → TOk2 (treeOf kind n l)
  | 0, _, _ => trivial
  | n + 1, [], _ => trivial
  | n + 1, top :: rest, h => by
    have hl := byD_len kind top.pt rest
    simp only [List.length_cons] at h
    rw [treeOf]
    refine ⟨fun hn => ?_, tree_ok2 kind n _ (by rw [List.length_take]; omega), tree_ok2 kind n _ (by rw [List.length_drop]; omega)⟩
    have l1 : ((byD kind top.pt rest).take (halfN rest.length)).length ≤ n := by rw [List.length_take]; omega
    have s := tree_size kind l1
    rw [hn, List.length_take] at s
    have hh := halfN_le rest.length
    have h0 : halfN rest.length = 0 := by have : Tr.nil.size = 0 := rfl; omega
    have hr : rest.length = 0 := by unfold halfN at h0; omega
    obtain rfl : rest = [] := List.eq_nil_of_length_eq_zero hr
    have hb : byD kind top.pt [] = [] := rfl
    refine ⟨?_, ?_⟩
    · rw [hb]; cases n <;> rfl
    · rw [hb]; rfl
theorem lay_node {kind : Int} {l : List It} {nodes : List Nd} {t : Tr} {i : Int} {b e : Nat} (h : Lay nodes t i b e) : TOk kind t → TOk2 t → (∀ y ∈ t.items, y ∈ l) → ∀ (j : Nat) (nd : Nd), b ≤ j → j < e → nodes[j]? = some nd → NodeOk kind l nodes j nd := by
  induction h with
  | nil b => intro _ _ _ j nd h1 h2; omega
  | node x r near far tn tf b m e h1 h2 h3 ih1 ih2 =>
    intro ok ok2 hi j nd hj he hn
    obtain ⟨_, _, near_le, far_ge, okn, okf⟩ := ok
    obtain ⟨nil2, ok2n, ok2f⟩ := ok2
    rcases Nat.lt_or_ge j (b + 1) with hlt | hge
    · obtain rfl : j = b := by omega
      rw [h1] at hn
      injection hn with hn
      subst hn
      refine ⟨x, hi x (by simp [Tr.items]), rfl, ?_⟩
      cases h2 with
      | nil =>
        obtain ⟨rfl, rfl⟩ := nil2 rfl
        cases h3
        exact .inl ⟨rfl, rfl, rfl⟩
      | node y r' ne fa tn' tf' _ m' _ a1 a2 a3 =>
        refine .inr ⟨by simp, ⟨y, _, hi y (by simp [Tr.items]), a1, rfl, near_le y (by simp [Tr.items])⟩, ?_⟩
        have hm := (Lay.node y r' ne fa tn' tf' _ m' _ a1 a2 a3).le.1
        cases h3 with
        | nil => exact .inl rfl
        | node z r2 ne2 fa2 tn2 tf2 _ m2 _ b1 b2 b3 => exact .inr ⟨m, rfl, by omega, z, _, hi z (by simp [Tr.items]), b1, rfl, far_ge z (by simp [Tr.items])⟩
    · rcases Nat.lt_or_ge j m with hm | hm
      · exact ih1 okn ok2n (fun y hy => hi y (by simp [Tr.items, hy])) j nd (by omega) hm hn
      · exact ih2 okf ok2f (fun y hy => hi y (by simp [Tr.items, hy])) j nd hm he hn
theorem treeV_node {l : List It} {kind : Int} {j : Nat} {nd : Nd} (hj : (treeV l kind)[j]? = some nd) : NodeOk kind l (treeV l kind) j nd := by
  have hlt := (List.getElem?_eq_some_iff.1 hj).1
  have hk := treeV_ok (l := l) (kind := kind) (by omega)
  obtain ⟨hs, _⟩ := treeOk_iff.1 hk
  have hlen := treeV_len hk
  have e : treeV l kind = (treeT l kind).nodes 0 := by rw [treeV, if_pos hk]
  have hsz : (treeT l kind).size = l.length := by rw [treeT, tree_size kind (Nat.le_refl _)]
  rw [e] at hj ⊢
  exact lay_node (lay_all (treeT l kind)) (tree_ok kind (Nat.le_refl _) (storeB_asc hs).keysD (store_vecs hs)) (tree_ok2 kind _ l (Nat.le_refl _)) (fun y hy => (tree_perm kind (Nat.le_refl _)).mem_iff.1 hy) j nd (Nat.zero_le _) (by omega) hj
end Go.Proofs.Ytebiaodjodlloaa
