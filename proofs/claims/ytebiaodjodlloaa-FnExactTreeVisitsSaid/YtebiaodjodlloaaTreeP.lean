/- Trees of items: how nodes lie; comparing items by their distances; sorting a row of items. Trees of items: what a call leaves alone; rows of items that are read; copying such a row. The program's building of a tree: the closure that calls itself. The program's building of a tree: a tree of one item; the whole. The program's building of a tree, from the store on. Trees: the kinds that serve, and what the program hands back. -/
import Derived.Test.YtebiaodjodlloaaHit2
import Derived.Test.YtebiaodjodlloaaShare
import Derived.Test.YtebiaodjodlloaaPlainT
import Derived.Deep.CutRange
import Derived.Deep.DeepCutAuto
import Derived.Test.YtebiaodjodlloaaNear2
import Derived.Laws.EntriesVeiled
namespace Go.Proofs.Ytebiaodjodlloaa
set_option linter.unusedVariables false
open Go Go.RowKit

def nodeP : Pod Nd := ⟨30, 4, fun x => [x.key, x.radius, x.near, x.far], fun _ => rfl, by omega⟩
theorem info_node : (Try.prog.info? 30).map (fun i => (i.zero, i.size, i.bytes)) = some (some (.agg #[.int .i64 0, .int .i64 0, .int .i64 0, .int .i64 0]), 4, 32) := by kernel_rfl
theorem node_in : PodIn Try.prog nodeP 26 := ⟨Try.underlying26, by
  obtain ⟨i0, h0, h1, h2, h3⟩ := info_parts info_node
  exact ⟨i0, _, h0, h1, h2, rfl, by rw [h3]; omega⟩⟩

theorem RI.lays {w w' : World} {A : Option Addr} {xs : List Int} (h : RI w w.heap.size A xs) (hl : Lays w w') : RI w' w'.heap.size A xs := h.grow hl.grow

/-- How the program compares items. -/
def cmpD (kind : Int) (c : List Int) (a b : It) : Int := orI (cmpI (distL kind c a.pt 4) (distL kind c b.pt 4)) (cmpI a.key b.key)
theorem cmpD_lt (kind : Int) (c : List Int) (a b : It) : Go.Proofs.ltOf (cmpD kind c) a b = itB kind c a b := by
  rw [Bool.eq_iff_iff, itB_iff, distL_comm kind a.pt, distL_comm kind b.pt]
  unfold Go.Proofs.ltOf cmpD orI cmpI
  rw [decide_eq_true_eq]
  split <;> (try split) <;> (try split) <;> (try split) <;> omega
set_option maxRecDepth 4000 in
set_option maxHeartbeats 3200000 in
theorem impl_treeCmp (kind : Int) (kb tb : Nat) (top a b : It) (At Aa Ab : Option Addr) (ct ca cb : Nat) (w : World)
    (hk : w.cell? ⟨kb, 0, none⟩ = some (.int .i64 kind)) (h1 : w.cell? ⟨tb, 1, none⟩ = some (.slice At top.pt.length ct))
    (rt : RI w w.heap.size At top.pt) (ra : RI w w.heap.size Aa a.pt) (rb : RI w w.heap.size Ab b.pt) (vt : vecB top.pt 4 = true) (va : vecB a.pt 4 = true) (vb : vecB b.pt 4 = true) :
    Calls Try.prog 72 #[.agg #[.int .i64 a.key, .slice Aa a.pt.length ca, .int .i64 a.tags], .agg #[.int .i64 b.key, .slice Ab b.pt.length cb, .int .i64 b.tags], .pointer (some ⟨kb, 0, none⟩), .pointer (some ⟨tb, 0, none⟩)] w
      fun e w' => e = .returned (.int .i64 (cmpD kind top.pt a b)) ∧ Lays w w' := by
  obtain ⟨ak, xs, at_⟩ := a
  obtain ⟨bk, ys, bt⟩ := b
  obtain ⟨tk, ts, tt⟩ := top
  simp only at h1 rt ra rb vt va vb ⊢
  have hr : cmpD kind ts ⟨ak, xs, at_⟩ ⟨bk, ys, bt⟩ = orI (cmpI (distL kind ts xs 4) (distL kind ts ys 4)) (cmpI ak bk) := rfl
  rw [hr]
  clear hr
  obtain ⟨dv, hdv⟩ : ∃ dv : List Int → Int, ∀ zs, distL kind ts zs 4 = dv zs := ⟨_, fun _ => rfl⟩
  have D := fun (A : Option Addr) (zs : List Int) (c d : Nat) (W : World) (h : RI w w.heap.size A zs) (v : vecB zs 4 = true) (L : Lays w W) => impl_distance kind At A ts zs c d W (rt.lays L) (h.lays L) vt v
  simp only [hdv] at D ⊢
  clear hdv
  obtain ⟨r, hr⟩ : ∃ r, orI (cmpI (dv xs) (dv ys)) (cmpI ak bk) = r := ⟨_, rfl⟩
  have O := fun (g c : Nat) (W : World) (h : Blk W g 3 #[.int .i64 (cmpI (dv xs) (dv ys)), .int .i64 (cmpI ak bk)]) => cmp_Or g (cmpI (dv xs) (dv ys)) (cmpI ak bk) c W h
  simp only [hr] at O ⊢
  clear hr
  have hkb : kb < w.heap.size := World.block_lt_of_cell? w _ hk
  have htb : tb < w.heap.size := World.block_lt_of_cell? w _ h1
  go_enter Try.func72, Try.ntmps72
  go_wp2_with fail
  obtain ⟨w0, hw0⟩ : ∃ w0, w0 = (w.alloc (.cells #[.int .i64 ak, .slice Aa xs.length ca, .int .i64 at_] 43)).alloc (.cells #[.int .i64 bk, .slice Ab ys.length cb, .int .i64 bt] 43) := ⟨_, rfl⟩
  have g0 : Lays w w0 := by rw [hw0]; exact ((Lays.refl w).alloc _).alloc _
  have b0 : Blk w0 w.heap.size 43 #[.int .i64 ak, .slice Aa xs.length ca, .int .i64 at_] := by rw [hw0]; exact (Blk.new w _ _).alloc _
  have b1 : Blk w0 (w.heap.size + 1) 43 #[.int .i64 bk, .slice Ab ys.length cb, .int .i64 bt] := by
    rw [hw0]; have := Blk.new (w.alloc (.cells #[.int .i64 ak, .slice Aa xs.length ca, .int .i64 at_] 43)) 43 #[.int .i64 bk, .slice Ab ys.length cb, .int .i64 bt]; simpa using this
  rw [← hw0]
  clear hw0
  have c0 : w0.cell? ⟨w.heap.size, 0, none⟩ = some (.int .i64 ak) := b0.cell 0
  have c1 : w0.cell? ⟨w.heap.size, 1, none⟩ = some (.slice Aa xs.length ca) := b0.cell 1
  have e0 : w0.cell? ⟨w.heap.size + 1, 0, none⟩ = some (.int .i64 bk) := b1.cell 0
  have e1 : w0.cell? ⟨w.heap.size + 1, 1, none⟩ = some (.slice Ab ys.length cb) := b1.cell 1
  have f0 : w0.cell? ⟨kb, 0, none⟩ = some (.int .i64 kind) := (g0.grow.cell hkb).trans hk
  have f1 : w0.cell? ⟨tb, 1, none⟩ = some (.slice At ts.length ct) := (g0.grow.cell htb).trans h1
  clear b0 b1 hk h1 rt vt
  go_region_held3 (fun w' => w'.cell? ⟨w.heap.size, 0, none⟩ = some (.int .i64 ak) ∧ w'.cell? ⟨w.heap.size, 1, none⟩ = some (.slice Aa xs.length ca) ∧ w'.cell? ⟨w.heap.size + 1, 0, none⟩ = some (.int .i64 bk) ∧ w'.cell? ⟨w.heap.size + 1, 1, none⟩ = some (.slice Ab ys.length cb) ∧ w'.cell? ⟨kb, 0, none⟩ = some (.int .i64 kind) ∧ w'.cell? ⟨tb, 1, none⟩ = some (.slice At ts.length ct))
    (first | (exact ⟨c0, c1, e0, e1, f0, f1⟩) | go_keep)
    (first
      | (go_at_call 55; refine (D _ _ _ _ _ (by first | exact ra | exact rb) (by first | exact va | exact vb) (by repeat' (first | exact Lays.refl _ | assumption | refine Lays.drewN ?_ _ | refine Lays.drew ?_ | refine Lays.alloc ?_ _))).mono ?_; rintro e w' ⟨rfl, n, rfl⟩)
      | (go_at_call 74; refine (cmp_Compare _ _ _).mono ?_; rintro e w' ⟨rfl, rfl⟩)
      | (go_at_call 73; refine (O _ _ _ (by repeat' (first | exact Blk.new _ _ _ | refine Blk.drew ?_))).mono ?_; rintro e w' ⟨rfl, rfl⟩))
  go_wp2
  go_ret
  exact ⟨rfl, by repeat' (first | exact Lays.refl _ | assumption | refine Lays.drewN ?_ _ | refine Lays.drew ?_ | refine Lays.alloc ?_ _)⟩

/-! ### Sorting a row of items by their distances -/
theorem flatS_flat (p : List (It × Value)) : flatS p = (p.map fun q => rowS q.1 q.2).flatten := by
  induction p with
  | nil => rfl
  | cons a p ih => rw [flatS, ih, List.map_cons, List.flatten_cons]
theorem attach_flat (p : List (It × Value)) : (p.attach.map fun x => rowS x.1.1 x.1.2).flatten = flatS p := by
  have h : (p.attach.map fun x => rowS x.1.1 x.1.2) = (p.attach.map Subtype.val).map fun q => rowS q.1 q.2 := by rw [List.map_map]; rfl
  rw [h, List.attach_map_subtype_val, flatS_flat]
theorem cmpD_swo {α : Type} (kind : Int) (c : List Int) (f : α → It) : Go.Sort.SWO (Go.Proofs.ltOf fun x y : α => cmpD kind c (f x) (f y)) where
  irrefl x := by have := cmpD_lt kind c (f x) (f x); unfold Go.Proofs.ltOf at this ⊢; rw [this]; exact (itB_ord kind c).irr _
  trans x y z h1 h2 := by
    have a := cmpD_lt kind c (f x) (f y)
    have b := cmpD_lt kind c (f y) (f z)
    have d := cmpD_lt kind c (f x) (f z)
    unfold Go.Proofs.ltOf at *
    simp only at h1 h2 ⊢
    rw [a] at h1; rw [b] at h2; rw [d]
    exact (itB_ord kind c).tr _ _ _ h1 h2
  ntrans x y z h1 h2 := by
    have a := cmpD_lt kind c (f x) (f y)
    have b := cmpD_lt kind c (f y) (f z)
    have d := cmpD_lt kind c (f x) (f z)
    unfold Go.Proofs.ltOf at *
    simp only at h1 h2 ⊢
    rw [a] at h1; rw [b] at h2; rw [d]
    rw [Bool.eq_false_iff, ne_eq, itB_iff] at *
    omega
theorem byD_is {kind : Int} {c : List Int} {l s : List It} (hk : KeysD l) (hp : s.Perm l) (hs : s.Pairwise (fun a b => itB kind c b a = false)) : s = byD kind c l := by
  refine byD_unique hk hp ?_
  unfold SortedL
  refine (hs.and (parted_of_keys (hk.perm hp) kind c)).imp fun {a b} h => ?_
  rcases h.2 with h2 | h2
  · exact h2
  · rw [h.1] at h2; cases h2
theorem ShP.form {w : World} {lo B n c : Nat} {A : Option Addr} {p : List (It × Value)} (h : ShP w lo B (.slice A n c) p) (hn : 0 < p.length) : ∃ g, A = some ⟨g, 0, none⟩ ∧ n = p.length ∧ lo ≤ g ∧ g < w.heap.size := by
  rcases h.own.2 with ⟨_, h0⟩ | ⟨g, cap, cur, hv, hb, hg, _⟩
  · omega
  · injection hv with e1 e2 e3
    subst e1
    exact ⟨g, rfl, e2, hb, (Array.getElem?_eq_some_iff.1 hg).1⟩
theorem ShP.open_ {w : World} {lo B : Nat} {v : Value} {p : List (It × Value)} (h : ShP w lo B v p) : ∃ A c, v = .slice A p.length c ∧ p.length ≤ c ∧ c ≤ maxLen := by
  rcases h.own.2 with ⟨rfl, h0⟩ | ⟨g, cap, cur, rfl, hb, hg, hn, hm, hs, ht⟩
  · exact ⟨none, 0, by rw [h0], by omega, by simp [maxLen]⟩
  · exact ⟨_, cap, rfl, hn, hm⟩
theorem app22 (a b c d : Value) : (#[a, b] ++ #[c, d] : Array Value) = #[a, b, c, d] := by simp
set_option maxRecDepth 20000 in
set_option maxHeartbeats 1600000 in
theorem sort_items (kind : Int) (kb tb : Nat) (top : It) (At : Option Addr) (ct : Nat) (p : List (It × Value)) (v : Value) (lo B : Nat) (w : World) (h : ShP w lo B v p) (hB : B ≤ lo)
    (hk : w.cell? ⟨kb, 0, none⟩ = some (.int .i64 kind)) (h1 : w.cell? ⟨tb, 1, none⟩ = some (.slice At top.pt.length ct)) (hkb : kb < lo) (htb : tb < lo) (hlw : lo ≤ w.heap.size)
    (rt : RI w B At top.pt) (vt : vecB top.pt 4 = true) (vp : ∀ q ∈ p, vecB q.1.pt 4 = true) (hl : p.length ≤ 1000) (kd : KeysD (p.map Prod.fst)) :
    Calls Try.prog 71 #[v, .func (.func 72) #[] #[.pointer (some ⟨kb, 0, none⟩), .pointer (some ⟨tb, 0, none⟩)]] w
      fun e w' => e = .returned (.tuple #[]) ∧ ∃ s, s.Perm p ∧ s.map Prod.fst = byD kind top.pt (p.map Prod.fst) ∧ ShP w' lo B v s ∧ Turn lo w.heap.size w w' := by
  obtain ⟨A, c, rfl, _, _⟩ := h.open_
  rcases Nat.eq_zero_or_pos p.length with h0 | h0
  · obtain rfl : p = [] := List.eq_nil_of_length_eq_zero h0
    refine Calls.mono (AnyF.slices_SortFunc_none laidItem A c _ w) ?_
    rintro e w' ⟨rfl, rfl⟩
    exact ⟨rfl, [], List.Perm.refl _, rfl, h, Turn.refl _ _ _⟩
  · obtain ⟨g, rfl, _, g1, g3⟩ := h.form h0
    have eg : ∀ args w, (callFunc 72 args).run Try.prog w = .ok (.enter 72 args) w := enters_of Try.func72 (by kernel_rfl) rfl
    haveI : Inhabited {q : It × Value // q ∈ p} := ⟨⟨p[0], List.getElem_mem h0⟩⟩
    obtain ⟨enc, henc⟩ : ∃ enc : {q : It × Value // q ∈ p} → List Value, enc = fun x => rowS x.1.1 x.1.2 := ⟨_, rfl⟩
    have hek : ∀ x, (enc x).length = 3 := fun x => by rw [henc]; rfl
    have he1 : ∀ x, ∀ u ∈ enc x, u.oneCell' = true := fun x u hu => by
      obtain ⟨Ak, ck, e, _⟩ := h.pts x.1 x.2
      rw [henc] at hu
      simp only [rowS, e, List.mem_cons, List.not_mem_nil, or_false] at hu
      rcases hu with rfl | rfl | rfl <;> rfl
    obtain ⟨cf, hcf⟩ : ∃ cf : {q : It × Value // q ∈ p} → {q : It × Value // q ∈ p} → Int, cf = fun x y => cmpD kind top.pt x.1.1 y.1.1 := ⟨_, rfl⟩
    have hswo : Go.Sort.SWO (Go.Proofs.ltOf cf) := by rw [hcf]; exact cmpD_swo kind top.pt fun x : {q : It × Value // q ∈ p} => x.1.1
    obtain ⟨cb, hcb⟩ : ∃ cb : Array Value, cb = #[.pointer (some ⟨kb, 0, none⟩), .pointer (some ⟨tb, 0, none⟩)] := ⟨_, rfl⟩
    have hflat : ∀ d : List {q : It × Value // q ∈ p}, (Go.Sort.flatK enc 3 d.toArray).toList = flatS (d.map Subtype.val) := fun d => by
      rw [flatK_list _ _ hek, flatS_flat, List.map_map, henc]; rfl
    have hda : (p.attach.map Subtype.val) = p := List.attach_map_subtype_val p
    have hH : Go.Sort.HoldsK enc 3 w g 0 p.attach.toArray := holds_own h.own (by rw [hflat, hda])
    have hsz : p.attach.toArray.size = p.length := by simp
    have hbel : ∀ (m : Nat) (os : Array Obj) (dk : Array {q : It × Value // q ∈ p}), dk.size = p.attach.toArray.size → Below lo w (sortWorldK enc 3 w g 0 m dk os) := fun m os dk hs => by
      have q2 := (own_sorted (m := m) (os := os) (F := Go.Sort.flatK enc 3 dk) h.own (by rw [Go.Sort.size_flatK, hs, hsz])).2
      exact ⟨q2.os, q2.tape, q2.output, q2.size, fun k hk => q2.block k (by omega) (fun e => by injection e with e; omega)⟩
    have hcmp : CmpLays Try.prog 72 cb enc 3 cf g 0 p.attach.toArray.size w := fun m os dk hs x y => by
      have hb := hbel m os dk hs
      obtain ⟨Aa, ca, ea, _, _, ra, _⟩ := h.pts x.1 x.2
      obtain ⟨Ab, cb, eb, _, _, rb, _⟩ := h.pts y.1 y.2
      have hsz2 := hb.size
      have := impl_treeCmp kind kb tb top x.1.1 y.1.1 At Aa Ab ct ca cb _ ((hb.cell hkb).trans hk) ((hb.cell htb).trans h1) ((rt.below (hb.mono hB)).more (by omega)) ((ra.below (hb.mono hB)).more (by omega)) ((rb.below (hb.mono hB)).more (by omega)) vt (vp _ x.2) (vp _ y.2)
      rw [← ea, ← eb] at this
      have e1 : (enc x).toArray = #[.int .i64 x.1.1.key, x.1.2, .int .i64 x.1.1.tags] := by rw [henc]; rfl
      have e2 : (enc y).toArray = #[.int .i64 y.1.1.key, y.1.2, .int .i64 y.1.1.tags] := by rw [henc]; rfl
      rw [e1, e2, hcb, app22, hcf]
      exact this
    have hc := AnyQ.slices_SortFunc laidItem 3 Try.isAgg43 Try.sizeOf43 enc hek he1 cf hswo 72 cb g 0 c p.attach.toArray w eg hcmp hH g3 (by rw [hsz]; omega)
    rw [hsz] at hc
    rw [← hcb]
    refine Calls.mono hc ?_
    rintro e w' ⟨rfl, d', n, os, hp, hs, rfl⟩
    rw [← hsz] at hp hs
    obtain ⟨p1, p2⟩ := sorted_list hp hs
    have hdl : d'.size = p.length := by have := p1.length_eq; simpa using this
    have hfl : (Go.Sort.flatK enc 3 d').toList = flatS (d'.toList.map Subtype.val) := by have := hflat d'.toList; rw [Array.toArray_toList] at this; exact this
    obtain ⟨q1, q2⟩ := own_sorted (m := n) (os := os) (F := Go.Sort.flatK enc 3 d') h.own (by rw [Go.Sort.size_flatK, hdl])
    have hb := hbel n os d' (by rw [hdl, hsz])
    rw [hfl] at q1
    have p1' : (d'.toList.map Subtype.val).Perm p := by
      have := p1.map Subtype.val
      rw [show p.attach.toArray.toList = p.attach from rfl, hda] at this
      exact this
    have hsl := p1'.length_eq
    refine ⟨rfl, d'.toList.map Subtype.val, p1', byD_is kd (p1'.map Prod.fst) ?_, ⟨by rw [hsl]; exact q1, fun q hq => (h.pts q (p1'.mem_iff.1 hq)).keep hb hB⟩, ?_⟩
    · rw [List.pairwise_map, List.pairwise_map]
      refine p2.imp fun {a b} hab => ?_
      have := cmpD_lt kind top.pt b.1.1 a.1.1
      rw [hcf] at hab
      unfold Go.Proofs.ltOf at this hab
      rw [← this]; exact hab
    · exact Turn.grown q2 fun k hk => by injection hk with hk; subst hk; exact ⟨g1, g3⟩
end Go.Proofs.Ytebiaodjodlloaa
namespace Go.Proofs.Ytebiaodjodlloaa
set_option linter.unusedVariables false
open Go Go.RowKit

/-- From w to w' no block below s has turned, but those of X. -/
structure FrB (s : Nat) (X : Nat → Prop) (w w' : World) : Prop where
  os : w'.os = w.os
  tape : w'.tape = w.tape
  output : w'.output = w.output
  size : w.heap.size ≤ w'.heap.size
  block : ∀ k, k < s → ¬ X k → w'.heap[k]? = w.heap[k]?
section
variable {w w' w'' : World} {s s' : Nat} {X Y : Nat → Prop}
theorem FrB.refl (s : Nat) (X : Nat → Prop) (w : World) : FrB s X w w := ⟨rfl, rfl, rfl, Nat.le_refl _, fun _ _ _ => rfl⟩
theorem FrB.trans (h : FrB s X w w') (k : FrB s X w' w'') : FrB s X w w'' :=
  ⟨k.os.trans h.os, k.tape.trans h.tape, k.output.trans h.output, Nat.le_trans h.size k.size, fun j hj hx => (k.block j hj hx).trans (h.block j hj hx)⟩
theorem FrB.less (h : FrB s' Y w w') (hs : s ≤ s') (hX : ∀ k, k < s → Y k → X k) : FrB s X w w' :=
  ⟨h.os, h.tape, h.output, h.size, fun k hk hx => h.block k (by omega) fun hy => hx (hX k hk hy)⟩
theorem FrB.of_below {lo : Nat} (h : Below lo w w') (hs : s ≤ lo) : FrB s X w w' := ⟨h.os, h.tape, h.output, h.size, fun k hk _ => h.block k (by omega)⟩
theorem FrB.of_grown {row : Option Nat} (h : w.grownBy w' row) (hs : s ≤ w.heap.size) (hX : ∀ k, row = some k → X k) : FrB s X w w' :=
  ⟨h.os, h.tape, h.output, h.size, fun k hk hx => h.block k (by omega) fun e => hx (hX k e.symm)⟩
theorem FrB.set_ (w : World) (g j : Nat) (u : Value) (hX : X g) : FrB s X w (w.setCell ⟨g, j, none⟩ u) :=
  ⟨rfl, rfl, rfl, by simp [World.setCell], fun k hk hx => Below.heap_setCell w ⟨g, j, none⟩ u k (fun e => hx (by rw [e]; exact hX))⟩
theorem FrB.drewN (s : Nat) (X : Nat → Prop) (w : World) (n : Nat) : FrB s X w (w.drewN n) := ⟨rfl, rfl, rfl, Nat.le_refl _, fun _ _ _ => rfl⟩
theorem FrB.drew (s : Nat) (X : Nat → Prop) (w : World) : FrB s X w w.drew := ⟨rfl, rfl, rfl, Nat.le_refl _, fun _ _ _ => rfl⟩
theorem FrB.cell (h : FrB s X w w') {p : Addr} (hp : p.block < s) (hx : ¬ X p.block) : w'.cell? p = w.cell? p := World.cell?_of_block (h.block p.block hp hx)
theorem FrB.blk (h : FrB s X w w') {g : Nat} {t : TypeId} {cs : Array Value} (hb : Blk w g t cs) (hp : g < s) (hx : ¬ X g) : Blk w' g t cs := (h.block g hp hx).trans hb
theorem FrB.below (h : FrB s X w w') {B : Nat} (hB : B ≤ s) (hX : ∀ k, k < B → ¬ X k) : Below B w w' := ⟨h.os, h.tape, h.output, h.size, fun k hk => h.block k (by omega) (hX k hk)⟩
theorem FrB.own {base n size : Nat} {e : TypeId} {v : Value} {us : List Value} (h : FrB s X w w') (ho : w.ownsRow base e size v n us) (hb : ∀ g, v.ownBlock = some g → g < s ∧ ¬ X g) : w'.ownsRow base e size v n us :=
  ownsRow_of_block ho fun g hg => h.block g (hb g hg).1 (hb g hg).2
end

/-- The row of items p is read at A. -/
def RowI (w : World) (A : Option Addr) (p : List (It × Value)) : Prop := Reads w w.heap.size 3 A p.length (flatS p)
theorem flatS_drop (p : List (It × Value)) (k : Nat) : flatS (p.drop k) = (flatS p).drop (k * 3) := by
  induction p generalizing k with
  | nil => simp [flatS]
  | cons a p ih =>
    match k with
    | 0 => simp
    | k + 1 =>
      have e : (k + 1) * 3 = 3 + k * 3 := by omega
      rw [List.drop_succ_cons, ih, flatS, e, ← List.drop_drop]
      rfl
theorem flatS_take (p : List (It × Value)) (k : Nat) : flatS (p.take k) = (flatS p).take (k * 3) := by
  induction p generalizing k with
  | nil => simp [flatS]
  | cons a p ih =>
    match k with
    | 0 => simp [flatS]
    | k + 1 =>
      have e : (k + 1) * 3 = 3 + k * 3 := by omega
      have h3 : (rowS a.1 a.2).length = 3 := rfl
      have ht : (rowS a.1 a.2).take (3 + k * 3) = rowS a.1 a.2 := List.take_of_length_le (by rw [h3]; omega)
      rw [List.take_succ_cons, flatS, ih, flatS, e, List.take_append, ht, h3, Nat.add_sub_cancel_left]
theorem RowI.take {w : World} {A : Option Addr} {p : List (It × Value)} (h : RowI w A p) (k : Nat) : RowI w A (p.take k) :=
  ⟨flatS_len _, fun hn => by
    obtain ⟨ad, e, hb, hc⟩ := h.2 (by rw [List.length_take] at hn; omega)
    refine ⟨ad, e, hb, fun j u hu => hc j u ?_⟩
    rw [flatS_take, List.getElem?_take] at hu
    split at hu
    · exact hu
    · cases hu⟩
theorem RowI.cut {w : World} {A : Option Addr} {p : List (It × Value)} (h : RowI w A p) {k cap : Nat} (hk : k ≤ p.length) (hc : p.length ≤ cap) : RowI w (if cap = k then A else A.map (·.add (k * 3))) (p.drop k) := by
  have := Reads.cut h hk hc
  unfold RowI
  rw [flatS_drop, List.length_drop]
  exact this
theorem RowI.head {w : World} {A : Option Addr} {q : It × Value} {p : List (It × Value)} (h : RowI w A (q :: p)) : ∃ ad, A = some ad ∧ ad.block < w.heap.size ∧ w.cell? ad = some (.int .i64 q.1.key) ∧ w.cell? ⟨ad.block, ad.off + 1, none⟩ = some q.2 ∧ w.cell? ⟨ad.block, ad.off + 2, none⟩ = some (.int .i64 q.1.tags) := by
  obtain ⟨ad, e, hb, hc⟩ := h.2 (by simp)
  have h0 := hc 0 _ (by simp [flatS, rowS]; rfl)
  have h1 := hc 1 _ (by simp [flatS, rowS]; rfl)
  have h2 := hc 2 _ (by simp [flatS, rowS]; rfl)
  have a1 := add_one ad 0 1 (by omega)
  have a2 := add_one ad 0 2 (by omega)
  have a0 : ad.add 0 = ad := by simp [Addr.add]
  rw [Nat.zero_add, a0] at a1 a2
  rw [a0] at h0
  rw [a1] at h1
  rw [a2] at h2
  exact ⟨ad, e, hb, h0, h1, h2⟩
/-- .. the item in the midst. -/
theorem RowI.at_ {w : World} {A : Option Addr} {p : List (It × Value)} (h : RowI w A p) {k : Nat} {q : It × Value} (hk : p[k]? = some q) : ∃ ad, A = some ad ∧ ad.block < w.heap.size ∧ w.cell? (ad.add (k * 3)) = some (.int .i64 q.1.key) ∧ w.cell? ⟨(ad.add (k * 3)).block, (ad.add (k * 3)).off + 1, none⟩ = some q.2 ∧ w.cell? ⟨(ad.add (k * 3)).block, (ad.add (k * 3)).off + 2, none⟩ = some (.int .i64 q.1.tags) := by
  obtain ⟨ad, e, hb, hc⟩ := h.2 (by have := (List.getElem?_eq_some_iff.1 hk).1; omega)
  have hk' : p[k]? = some (q.1, q.2) := hk
  obtain ⟨c0, c1, c2⟩ := flatS_at hk'
  have a1 := add_one ad (k * 3) 1 (by omega)
  have a2 := add_one ad (k * 3) 2 (by omega)
  have h1 := hc _ _ c1
  have h2 := hc _ _ c2
  rw [a1] at h1
  rw [a2] at h2
  exact ⟨ad, e, hb, hc _ _ c0, h1, h2⟩
theorem RowI.grow {w w' : World} {A : Option Addr} {p : List (It × Value)} (h : RowI w A p) (g : Grow w w') : RowI w' A p := Reads.more (Reads.below h g) g.size
theorem RowI.nil_ (w : World) (A : Option Addr) : RowI w A [] := ⟨by simp [flatS], fun h => absurd h (by simp)⟩
theorem RowI.fr {w w' : World} {s : Nat} {X : Nat → Prop} {A : Option Addr} {p : List (It × Value)} (h : RowI w A p) (hf : FrB s X w w') (hb : ∀ ad, A = some ad → 0 < p.length → ad.block < s ∧ ¬ X ad.block) : RowI w' A p :=
  ⟨h.1, fun hn => by
    obtain ⟨ad, e, hb1, hc⟩ := h.2 hn
    obtain ⟨b1, b2⟩ := hb ad e hn
    refine ⟨ad, e, by have := hf.size; omega, fun j u hu => (hf.cell (by rw [block_of_add]; exact b1) (by rw [block_of_add]; exact b2)).trans (hc j u hu)⟩⟩
theorem ShP.row {w : World} {lo B n c : Nat} {A : Option Addr} {p : List (It × Value)} (h : ShP w lo B (.slice A n c) p) : n = p.length ∧ RowI w A p := by
  obtain ⟨A', c', e, _, _⟩ := h.open_
  injection e with e1 e2 e3
  subst e2
  exact ⟨rfl, Reads.of_own h.own⟩
theorem ShP.fr {w w' : World} {s lo B : Nat} {X : Nat → Prop} {v : Value} {p : List (It × Value)} (h : ShP w lo B v p) (hf : FrB s X w w') (hb : ∀ g, v.ownBlock = some g → g < s ∧ ¬ X g) (hB : B ≤ s) (hX : ∀ k, k < B → ¬ X k) : ShP w' lo B v p :=
  ⟨hf.own h.own hb, fun q hq => (h.pts q hq).keep (hf.below hB hX) (Nat.le_refl _)⟩
theorem ShP.lit (w : World) (B : Nat) : ShP (w.alloc (.cells #[] 43)) w.heap.size B (.slice (some ⟨w.heap.size, 0, none⟩) 0 0) [] :=
  ⟨by simpa [flatS] using World.ownsRow_lit (base := w.heap.size) (e := 43) (size := 3) w #[] 0 (Nat.le_refl _) (by unfold maxLen; omega) rfl, fun q hq => by simp at hq⟩
/-- A row of items appended to a row of the call's own. -/
theorem wpList_copyS {ops : Array Oper} {rest : List Oper} {o : Oper} {a : Act} {Q : Exit → Act → World → Prop} (hgd : o.guard = none) (s x : Operand)
    (ho : o.op = .call { callee := .builtin .append, args := #[s, x], argTypes := #[23, 23] })
    {w : World} {lo B n c : Nat} {v : Value} {A : Option Addr} {p1 p2 : List (It × Value)} (hs : a.eval s = v) (hx : a.eval x = .slice A n c) (hn : n = p2.length)
    (h1 : ShP w lo B v p1) (h2 : RowI w A p2) (hq : ∀ q ∈ p2, PtAt w B q) (hB : B ≤ lo) (hlo : lo ≤ w.heap.size) (hl1 : p1.length ≤ 1000) (hl2 : p2.length ≤ 1000)
    (h : ∀ v' w', ShP w' lo B v' (p1 ++ p2) → Below lo w w' → wpList Try.prog ops Q rest (a.put o.dst v') w') :
    wpList Try.prog ops Q (o :: rest) a w := by
  obtain ⟨i0, hi0, hz0, hz1, hz2⟩ := info_parts info_item
  subst hn
  refine wpList_plain hgd fun _ hK => ?_
  refine wp_append_any w s x 23 ho lo 43 i0 _ 3 40 Try.underlying23 hi0 hz0 hz1 hz2 rfl (by omega) v p1.length (flatS p1) hs h1.own w.heap.size A p2.length c (flatS p2) hx h2
    (flatS_one fun q hq' => by obtain ⟨Ak, ck, e, _⟩ := hq q hq'; rw [e]; rfl) (by unfold maxLen; omega) (by omega) hlo ?_
  intro v' w' r1 r2 _
  have hbel : Below lo w w' := ⟨r2.os, r2.tape, r2.output, r2.size, fun k hk => r2.block k (by omega) (fun e => by have := h1.own.lt k e.symm; omega)⟩
  refine hK _ _ (h v' w' ⟨by rw [flatS_append]; simpa using r1, fun q hqm => ?_⟩ hbel)
  rcases List.mem_append.1 hqm with hqm | hqm
  · exact (h1.pts q hqm).keep hbel hB
  · exact (hq q hqm).keep hbel hB
end Go.Proofs.Ytebiaodjodlloaa
namespace Go.Proofs.Ytebiaodjodlloaa
set_option linter.unusedVariables false
open Go Go.RowKit

/-- What the closure is bound to: the kind, the nodes' variable (it holds v), the closure's own variable. -/
structure TEnv (w : World) (kind : Int) (kb nc fc : Nat) (v : Value) : Prop where
  ck : w.cell? ⟨kb, 0, none⟩ = some (.int .i64 kind)
  bn : Blk w nc 26 #[v]
  cf : w.cell? ⟨fc, 0, none⟩ = some (.func (.func 70) #[] #[.pointer (some ⟨kb, 0, none⟩), .pointer (some ⟨nc, 0, none⟩), .pointer (some ⟨fc, 0, none⟩)])
  d1 : kb ≠ nc
  d2 : fc ≠ nc
  o1 : v.ownBlock ≠ some kb
  o2 : v.ownBlock ≠ some nc
  o3 : v.ownBlock ≠ some fc
def XN (nc : Nat) (v : Value) (k : Nat) : Prop := k = nc ∨ v.ownBlock = some k
def NewB (s : Nat) (v v' : Value) : Prop := v'.ownBlock = v.ownBlock ∨ ∃ g, v'.ownBlock = some g ∧ s ≤ g
theorem TEnv.kl {w : World} {kind : Int} {kb nc fc : Nat} {v : Value} (h : TEnv w kind kb nc fc v) : kb < w.heap.size ∧ nc < w.heap.size ∧ fc < w.heap.size :=
  ⟨World.block_lt_of_cell? w _ h.ck, h.bn.lt, World.block_lt_of_cell? w _ h.cf⟩
/-- What a call of the closure shows. -/
def Built (kind : Int) (kb nc fc base : Nat) (n : Nat) : Prop := ∀ (p : List (It × Value)) (A : Option Addr) (c : Nat) (N : List Nd) (v : Value) (w : World),
    p.length ≤ n → p.length ≤ c → c ≤ maxLen → N.length + p.length ≤ 1000 → KeysD (p.map Prod.fst) → (∀ q ∈ p, vecB q.1.pt 4 = true) → RowI w A p → (∀ q ∈ p, PtAt w base q) →
    (∀ ad, A = some ad → 0 < p.length → ad.block ≠ nc ∧ v.ownBlock ≠ some ad.block) → TEnv w kind kb nc fc v → OwnK nodeP w base w.heap.size v N → base ≤ nc →
    Calls Try.prog 70 #[.slice A p.length c, .pointer (some ⟨kb, 0, none⟩), .pointer (some ⟨nc, 0, none⟩), .pointer (some ⟨fc, 0, none⟩)] w
      fun e w' => e = .returned (.int .i64 ((treeOf kind n (p.map Prod.fst)).ix N.length)) ∧ ∃ v', TEnv w' kind kb nc fc v' ∧ OwnK nodeP w' base w'.heap.size v' (N ++ (treeOf kind n (p.map Prod.fst)).nodes N.length) ∧
        FrB w.heap.size (XN nc v) w w' ∧ NewB w.heap.size v v'
theorem TEnv.step {w w' : World} {kind : Int} {kb nc fc s : Nat} {v v' : Value} (h : TEnv w kind kb nc fc v) (hf : FrB s (XN nc v) w w') (h1 : kb < s) (h3 : fc < s) (h2 : nc < s) (hb : Blk w' nc 26 #[v']) (hn : NewB s v v') : TEnv w' kind kb nc fc v' := by
  have far : ∀ k, k < s → v.ownBlock ≠ some k → v'.ownBlock ≠ some k := fun k hk hne e => by
    rcases hn with hn | ⟨g, hg, hg2⟩
    · rw [hn] at e; exact hne e
    · rw [hg] at e; injection e with e; omega
  exact ⟨(hf.cell h1 (fun e => e.elim h.d1 h.o1)).trans h.ck, hb, (hf.cell h3 (fun e => e.elim h.d2 h.o3)).trans h.cf, h.d1, h.d2, far _ h1 h.o1, far _ h2 h.o2, far _ h3 h.o3⟩
theorem TEnv.drew {w : World} {kind : Int} {kb nc fc : Nat} {v : Value} (h : TEnv w kind kb nc fc v) : TEnv w.drew kind kb nc fc v := ⟨h.ck, h.bn, h.cf, h.d1, h.d2, h.o1, h.o2, h.o3⟩
theorem xn_back {s nc k : Nat} {v v' : Value} (hn : NewB s v v') (hk : k < s) (h : XN nc v' k) : XN nc v k := by
  rcases h with h | h
  · exact .inl h
  · rcases hn with hn | ⟨g, hg, hg2⟩
    · exact .inr (hn.symm.trans h)
    · rw [hg] at h; injection h with h; omega
theorem NewB.trans {s s' : Nat} {v v' v'' : Value} (h : NewB s v v') (k : NewB s' v' v'') (hs : s ≤ s') : NewB s v v'' := by
  rcases k with k | ⟨g, hg, hg2⟩
  · rcases h with h | ⟨g, hg, hg2⟩
    · exact .inl (k.trans h)
    · exact .inr ⟨g, k.trans hg, hg2⟩
  · exact .inr ⟨g, hg, by omega⟩
theorem NewB.low {s s' : Nat} {v v' : Value} (h : NewB s' v v') (hs : s ≤ s') : NewB s v v' := by
  rcases h with h | ⟨g, hg, hg2⟩
  · exact .inl h
  · exact .inr ⟨g, hg, by omega⟩
theorem ix_fits {kind : Int} {n : Nat} {l : List It} (h : l.length ≤ n) {b : Int} (h0 : 0 ≤ b) (h1 : b ≤ 100000) : Fits ((treeOf kind n l).ix b) := by
  rw [tree_ix kind h]; unfold Fits; split <;> omega
theorem built_list {kind : Int} {n k : Nat} {top : It} {rs S : List It} {rad near far : Int} {N : List Nd} {T1 T2 : Tr} (hS : S = byD kind top.pt rs) (hk : k = halfN rs.length) (h1 : T1 = treeOf kind n (S.take k)) (h2 : T2 = treeOf kind n (S.drop k)) (hr : rad = radOf kind top.pt S)
    (hn : near = T1.ix ((N.length : Int) + 1)) (hf : far = T2.ix ((N.length : Int) + 1 + T1.size)) :
    N ++ (treeOf kind (n + 1) (top :: rs)).nodes N.length = N ++ ((⟨top.key, rad, near, far⟩ : Nd) :: (T1.nodes ((N.length : Int) + 1) ++ T2.nodes ((N.length : Int) + 1 + T1.size))) := by
  subst hS hk h1 h2 hr hn hf
  rw [treeOf, Tr.nodes]
theorem own_some {α : Type} {p : Pod α} {w : World} {lo hi : Nat} {v : Value} {l : List α} {y : α} (h : OwnK p w lo hi v (l ++ [y])) : ∃ g c, v = .slice (some ⟨g, 0, none⟩) (l.length + 1) c ∧ lo ≤ g ∧ g < w.heap.size ∧ l.length + 1 ≤ c := by
  obtain ⟨A, c, rfl, hc, _, _⟩ := h.open_
  obtain ⟨g, rfl, _, h1, h2, h3⟩ := h.form (by simp)
  exact ⟨g, c, by simp, h1, h3, by simpa using hc⟩
theorem treeOf_nil (kind : Int) (n : Nat) : treeOf kind n [] = .nil := by cases n <;> rfl
theorem built_nil (kb nc fc : Addr) (A : Option Addr) (c : Nat) (w : World) :
    Calls Try.prog 70 #[.slice A 0 c, .pointer (some kb), .pointer (some nc), .pointer (some fc)] w fun e w' => e = .returned (.int .i64 (-1)) ∧ w = w' := by
  go_enter Try.func70, Try.ntmps70
  go_wp2_with fail
  go_ret
  exact ⟨rfl, rfl⟩

set_option maxRecDepth 20000 in
set_option maxHeartbeats 3200000 in
theorem built_cons {kind : Int} {kb nc fc base n : Nat} (ih : Built kind kb nc fc base n) (q : It × Value) (r : List (It × Value)) (A : Option Addr) (c : Nat) (N : List Nd) (v : Value) (w : World)
    (hr : 0 < r.length) (hn : r.length ≤ n) (hc : r.length + 1 ≤ c) (hcm : c ≤ maxLen) (hN : N.length + (r.length + 1) ≤ 1000) (hkd : KeysD (q.1 :: r.map Prod.fst)) (hv : ∀ x ∈ q :: r, vecB x.1.pt 4 = true) (hrow : RowI w A (q :: r)) (hpt : ∀ x ∈ q :: r, PtAt w base x)
    (hA : ∀ ad, A = some ad → ad.block ≠ nc ∧ v.ownBlock ≠ some ad.block) (he : TEnv w kind kb nc fc v) (ho : OwnK nodeP w base w.heap.size v N) (hb : base ≤ nc) :
    Calls Try.prog 70 #[.slice A (r.length + 1) c, .pointer (some ⟨kb, 0, none⟩), .pointer (some ⟨nc, 0, none⟩), .pointer (some ⟨fc, 0, none⟩)] w
      fun e w' => e = .returned (.int .i64 N.length) ∧ ∃ v', TEnv w' kind kb nc fc v' ∧ OwnK nodeP w' base w'.heap.size v' (N ++ (treeOf kind (n + 1) (q.1 :: r.map Prod.fst)).nodes N.length) ∧
        FrB w.heap.size (XN nc v) w w' ∧ NewB w.heap.size v v' := by
  obtain ⟨hkb, hnc, hfc⟩ := he.kl
  obtain ⟨ad, rfl, had, c0, c1, c2⟩ := hrow.head
  obtain ⟨Aq, cq, hq2, _, _, rq, _, _⟩ := hpt q (List.mem_cons_self ..)
  rw [hq2] at c1
  obtain ⟨_, _, _, _, _, _, hfq, _⟩ := hpt q (List.mem_cons_self ..)
  obtain ⟨top, htop⟩ : ∃ t : It, t = q.1 := ⟨_, rfl⟩
  rw [← htop] at c0 c1 c2 rq hkd hfq ⊢
  have hfk : ∀ z ∈ nodeP.f ⟨top.key, 0, 0, 0⟩, Fits z := fun z hz => by
    simp [nodeP] at hz
    rcases hz with rfl | rfl
    · exact hfq
    · exact ⟨by omega, by omega⟩
  have hvt : vecB top.pt 4 = true := by rw [htop]; exact hv q (List.mem_cons_self ..)
  obtain ⟨w1, hw1⟩ : ∃ w1, w1 = w.alloc (.cells #[.int .i64 top.key, .slice Aq top.pt.length cq, .int .i64 top.tags] 43) := ⟨_, rfl⟩
  have b1 : Blk w1 w.heap.size 43 #[.int .i64 top.key, .slice Aq top.pt.length cq, .int .i64 top.tags] := by rw [hw1]; exact Blk.new _ _ _
  have g1 : Grow w w1 := by rw [hw1]; exact (Below.refl _ _).alloc (Nat.le_refl _) _
  have HW := Lib.hid hw1
  have hvr : ∀ x ∈ r, vecB x.1.pt 4 = true := fun x hx => hv x (List.mem_cons_of_mem _ hx)
  have hptr : ∀ x ∈ r, PtAt w base x := fun x hx => hpt x (List.mem_cons_of_mem _ hx)
  have hkr : KeysD (r.map Prod.fst) := (List.pairwise_cons.1 hkd).2
  have hcut0 := hrow.cut (k := 1) (cap := c) (by simp) (by simpa using hc)
  simp only [List.drop_succ_cons, List.drop_zero, Option.map_some] at hcut0
  have HT := Lib.hid htop
  have gA : Grow w1 (w1.alloc (.cells #[] 43)) := (Below.refl _ _).alloc (Nat.le_refl _) _
  have hcut1 := hcut0.grow (Grow.trans g1 gA)
  have hz1 := g1.size
  have hptA : ∀ x ∈ r, PtAt (w1.alloc (.cells #[] 43)) base x := fun x hx => (hptr x hx).keep (Grow.trans g1 gA) (by omega)
  clear hw1 hv hpt hrow hq2 htop hcut0
  go_enter Try.func70, Try.ntmps70
  go_upto_region 4 with fail
  rw [← HW.out]
  go_cut [7] (fun v7 wc => ShP wc w1.heap.size base v7 r ∧ Below w1.heap.size w1 wc)
  case first =>
    by_cases hc1 : c = 1
    · have hr0 : r.length = 0 := by omega
      obtain rfl : r = [] := List.eq_nil_of_length_eq_zero hr0
      subst hc1
      go_wp2_with (at_builtin; go_must (refine wpList_copyS (p2 := []) rfl _ _ rfl (by rfl) (by rfl) rfl (ShP.lit w1 base) (RowI.nil_ _ _) hptA (by omega) gA.size (by simp) (by simp) ?_); intro v3 w3 s3 b3)
      go_meet
      exact ⟨s3, Below.trans gA b3⟩
    · rw [if_neg hc1] at hcut1
      have hc2 : 1 < c := by omega
      go_wp2_with (at_builtin; go_must (refine wpList_copyS rfl _ _ rfl (by rfl) (by rfl) rfl (ShP.lit w1 base) hcut1 hptA (by omega) gA.size (by simp) (by omega) ?_); intro v3 w3 s3 b3)
      go_meet
      exact ⟨s3, Below.trans gA b3⟩
  case rest =>
    obtain ⟨s3, b3⟩ := hcut
    have e3 := b3.size
    have g3 : Grow w wc := Below.trans g1 (Below.mono b3 hz1)
    have hlt := b1.lt
    have rt3 : RI wc base Aq top.pt := rq.below (Below.mono g3 (by omega))
    have k3 : wc.cell? ⟨kb, 0, none⟩ = some (.int .i64 kind) := (g3.cell hkb).trans he.ck
    have t3 : wc.cell? ⟨w.heap.size, 1, none⟩ = some (.slice Aq top.pt.length cq) := (b3.cell hlt).trans (b1.cell 1)
    go_wp2_with fail
    refine (sort_items kind kb w.heap.size top Aq cq r _ w1.heap.size base wc s3 (by omega) k3 t3 (by omega) hlt e3 rt3 hvt hvr (by omega) hkr).mono ?_
    rintro e w4 ⟨rfl, s, hsp, hsd, s4, t4⟩
    have g14 : Grow w1 w4 := Below.trans b3 (t4.below e3 (Nat.le_refl _))
    have g04 : Grow w w4 := Below.trans g1 (Below.mono g14 hz1)
    have e4 := g14.size
    have hsl := hsp.length_eq
    obtain ⟨A4, c4, rfl, hl4, hm4⟩ := s4.open_
    have hp0 : 0 < halfN s.length := halfN_pos (by omega)
    obtain ⟨m, hm⟩ : ∃ m, m + 1 = halfN s.length := ⟨halfN s.length - 1, by omega⟩
    have hm1 : m < s.length := by have := halfN_le s.length; omega
    obtain ⟨k, hk⟩ : ∃ k, k = m + 1 := ⟨_, rfl⟩
    have hq : Int.tdiv ((s.length : Int) + 1) 2 = (k : Int) := by rw [Int.tdiv_eq_ediv_of_nonneg (by omega)]; unfold halfN at hm; omega
    have hk0 : 0 < k := by omega
    have hks : k ≤ s.length := by omega
    have i3 : IntKind.i64.wrap (m : Int) = (m : Int) := by rw [IntKind.wrap_i64]; omega
    have i3b : (k : Int) - 1 = (m : Int) := by omega
    have HK := Lib.hid hk
    have HM := Lib.hid hm
    have HS := Lib.hid hsl
    have HD := Lib.hid hsd
    have hs1 : s.length ≤ 1000 := by omega
    have bn4 := he.bn.below g04 hnc
    have ho4 := ho.grow g04
    obtain ⟨An, cn, rfl, _, _, _⟩ := ho.open_
    have z4 : w4.cell? ⟨nc, 0, none⟩ = some (.slice An N.length cn) := bn4.cell 0
    have bt4 := b1.below g14 hlt
    have t40 : w4.cell? ⟨w.heap.size, 0, none⟩ = some (.int .i64 top.key) := bt4.cell 0
    have hne := he.o2
    clear hk hp0 hm hsl hsd s3 t3 k3 rt3 hcut1 hptA
    go_upto_region 9 with (at_builtin; go_must (refine wpList_pushK (y := ⟨top.key, 0, 0, 0⟩) node_in rfl _ _ rfl (by rfl) (by rfl) rfl ho4 (by omega) (by omega) hfk ?_); intro v5 w5 o5 b5 gr5 nb5; obtain ⟨g5, c5, rfl, hg5, hh5, hc5⟩ := own_some o5; have bn5 := bn4.grown gr5 (fun e => hne e.symm); have z5 := bn5.cell 0; have f5 := bn5.frozen 0)
    obtain ⟨w6, hw6⟩ : ∃ w6, w6 = w5.setCell ⟨nc, 0, none⟩ (.slice (some ⟨g5, 0, none⟩) (N.length + 1) c5) := ⟨_, rfl⟩
    rw [← hw6]
    have NB5 : NewB w4.heap.size (.slice An N.length cn) (.slice (some ⟨g5, 0, none⟩) (N.length + 1) c5) := nb5
    have F6 : FrB w4.heap.size (XN nc (.slice An N.length cn)) w4 w6 := (FrB.of_grown gr5 (Nat.le_refl _) (fun k hk => .inr hk)).trans (by rw [hw6]; exact FrB.set_ _ _ _ _ (.inl rfl))
    have hk4 : kb < w4.heap.size := by omega
    have hf4 : fc < w4.heap.size := by omega
    have hn4 : nc < w4.heap.size := by omega
    have he4 : TEnv w4 kind kb nc fc (.slice An N.length cn) := he.step (s := w.heap.size) (FrB.of_below g04 (Nat.le_refl _)) hkb hfc hnc bn4 (.inl rfl)
    have he6 : TEnv w6 kind kb nc fc (.slice (some ⟨g5, 0, none⟩) (N.length + 1) c5) := he4.step F6 hk4 hf4 hn4 (by rw [hw6]; exact bn5.set_ 0 _) NB5
    have hgn : g5 ≠ nc := fun e => he6.o2 (by rw [e]; rfl)
    have o6 : OwnK nodeP w6 base w6.heap.size (.slice (some ⟨g5, 0, none⟩) (N.length + 1) c5) (N ++ [⟨top.key, 0, 0, 0⟩]) := by
      have := o5.still (w' := w6) (fun g hg => by
        have hg' : some g5 = some g := hg
        injection hg' with hg'
        rw [hw6]; exact Below.heap_setCell w5 ⟨nc, 0, none⟩ _ g (by show g ≠ nc; omega))
      exact this.up
    have hvo : ∀ g, (Value.slice An N.length cn).ownBlock = some g → g < w.heap.size := fun g hg => (ho.lt g hg).2
    have hX : ∀ k, w1.heap.size ≤ k ∨ k = w.heap.size → ¬ XN nc (.slice An N.length cn) k := fun k hk e => by
      rcases e with e | e
      · omega
      · have := hvo k e; omega
    have hXb : ∀ k, k < base → ¬ XN nc (.slice An N.length cn) k := fun k hk e => by
      rcases e with e | e
      · omega
      · have := (ho.lt k e).1; omega
    have s6 : ShP w6 w1.heap.size base (.slice A4 s.length c4) s := s4.fr F6 (fun g hg => ⟨(s4.own.lt g hg).2, hX g (.inl (s4.own.lt g hg).1)⟩) (by omega) hXb
    have r6 := s6.row.2
    have hb46 := F6.size
    obtain ⟨qm, hqm⟩ : ∃ qm, s[m]? = some qm := ⟨_, List.getElem?_eq_getElem hm1⟩
    obtain ⟨a4, rfl, ha4, _, x1, _⟩ := r6.at_ hqm
    have hqr : qm ∈ r := hsp.mem_iff.1 (List.mem_of_getElem? hqm)
    obtain ⟨Am, cm, eqm, _, _, rm, _, _⟩ := s6.pts qm (List.mem_of_getElem? hqm)
    have vm := hvr qm hqr
    rw [eqm] at x1
    obtain ⟨ym, hym⟩ : ∃ y : It, y = qm.1 := ⟨_, rfl⟩
    rw [← hym] at x1 rm vm
    have B46 : Below base w4 w6 := F6.below (by omega) hXb
    have rt6 : RI w6 base Aq top.pt := rq.below (Below.trans (Below.mono g04 (by omega)) B46)
    have y1 : w6.cell? ⟨nc, 0, none⟩ = some (.slice (some ⟨g5, 0, none⟩) (N.length + 1) c5) := he6.bn.cell 0
    have y2 : w6.cell? ⟨kb, 0, none⟩ = some (.int .i64 kind) := he6.ck
    have y3 : w6.cell? ⟨w.heap.size, 1, none⟩ = some (.slice Aq top.pt.length cq) := (F6.cell (p := ⟨w.heap.size, 1, none⟩) (by show w.heap.size < _; omega) (hX _ (.inr rfl))).trans (bt4.cell 1)
    have D := fun (c d : Nat) (W : World) (L : Lays w6 W) => impl_distance kind Aq Am top.pt ym.pt c d W ((rt6.more (by omega)).lays L) ((rm.more (by omega)).lays L) hvt vm
    obtain ⟨rad, hrad⟩ : ∃ rad, rad = distL kind top.pt ym.pt 4 := ⟨_, rfl⟩
    rw [← hrad] at D
    have f6 := o6.frozenAt (N.length * 4 + 1) (by simp)
    have x6 : w6.cell? ⟨g5, N.length * 4 + 1, none⟩ = some (.int .i64 0) := o6.cellAt (i := N.length) (j := 1) (x := ⟨top.key, 0, 0, 0⟩) (by simp) (by simp) rfl
    have far5 : ∀ k, k < w4.heap.size → (Value.slice An N.length cn).ownBlock ≠ some k → g5 ≠ k := fun k hk hne e => by
      rcases NB5 with h | ⟨g, hg, hg2⟩
      · exact hne (h.symm.trans (by rw [← e]; rfl))
      · have hg' : some g5 = some g := hg
        injection hg' with hg'
        omega
    have hgk : g5 ≠ kb := far5 kb hk4 he.o1
    have hgt : g5 ≠ w.heap.size := far5 _ (by omega) (fun e => by have := hvo _ e; omega)
    have hga : g5 ≠ (a4.add (m * 3)).block := by
      rw [block_of_add]
      obtain ⟨g4, eg4, _, hg4, hg4b⟩ := s4.form (by omega)
      injection eg4 with eg4
      rw [eg4]
      exact far5 _ hg4b (fun e => by have : g4 < w.heap.size := hvo _ e; omega)
    have hi6 : (N.length : Int) + 1 ≤ (c5 : Int) := by omega
    have hP := Lib.hid hsp
    have HY := Lib.hid hym
    have HR := Lib.hid hrad
    have HQ := Lib.hid hqm
    clear hw6 z5 f5 t40 z4 hsp hym hrad hqm eqm bn5 bn4
    have i0 : (0 : Int) ≤ (m : Int) := by omega
    have i1 : (m : Int) < (s.length : Int) := by omega
    have i4 : (0 : Int) ≤ (N.length : Int) := by omega
    have i5 : (N.length : Int) < (N.length : Int) + 1 := by omega
    go_wp2_with fail
    go_region_held3 (fun w' => w'.cell? ⟨nc, 0, none⟩ = some (.slice (some ⟨g5, 0, none⟩) (N.length + 1) c5) ∧ w'.cell? ⟨kb, 0, none⟩ = some (.int .i64 kind) ∧ w'.cell? ⟨w.heap.size, 1, none⟩ = some (.slice Aq top.pt.length cq) ∧ w'.cell? ⟨(a4.add (m * 3)).block, (a4.add (m * 3)).off + 1, none⟩ = some (.slice Am ym.pt.length cm))
      (first | (exact ⟨y1, y2, y3, x1⟩) | go_keep)
      (first | (go_at_call 55; refine (D _ _ _ (by repeat' (first | exact Lays.refl _ | assumption | refine Lays.drewN ?_ _ | refine Lays.drew ?_ | refine Lays.alloc ?_ _))).mono ?_; rintro e w' ⟨rfl, n', rfl⟩))
    rename_i hH
    clear hH
    obtain ⟨w7, hw7⟩ : ∃ w7, w7 = (w6.drewN (1 + n')).setCell ⟨g5, N.length * 4 + 1, none⟩ (.int .i64 rad) := ⟨_, rfl⟩
    rw [← hw7]
    have hset : (N ++ [(⟨top.key, 0, 0, 0⟩ : Nd)]).set N.length ⟨top.key, rad, 0, 0⟩ = N ++ [⟨top.key, rad, 0, 0⟩] := by rw [List.set_append_right _ _ (Nat.le_refl _)]; simp
    have hfr : Fits rad := by
      have := (distL_bd kind hvt vm)
      rw [HR.out]; exact ⟨by omega, by omega⟩
    have o7 : OwnK nodeP w7 base w7.heap.size (.slice (some ⟨g5, 0, none⟩) (N.length + 1) c5) (N ++ [⟨top.key, rad, 0, 0⟩]) := by
      have := ((o6.grow (Grow.drewN _ (1 + n'))).set_ (i := N.length) (j := 1) (x := ⟨top.key, 0, 0, 0⟩) (y := ⟨top.key, rad, 0, 0⟩) (z := rad) (by simp) (by simp) (by show 1 < 4; omega) rfl hfr)
      rw [hset] at this
      rw [hw7]; exact this.up
    have F67 : FrB w6.heap.size (XN nc (.slice (some ⟨g5, 0, none⟩) (N.length + 1) c5)) w6 w7 := by rw [hw7]; exact (FrB.drewN _ _ _ _).trans (FrB.set_ _ _ _ _ (.inr rfl))
    have bn7 : Blk w7 nc 26 #[.slice (some ⟨g5, 0, none⟩) (N.length + 1) c5] := by rw [hw7]; exact (he6.bn.drewN _).far (by show nc ≠ g5; omega) _
    have he7 := he6.step F67 (by omega) (by omega) (by omega) bn7 (.inl rfl)
    have F7 : FrB w4.heap.size (XN nc (.slice An N.length cn)) w4 w7 := F6.trans (F67.less hb46 (fun k hk hx => xn_back NB5 hk hx))
    have s7 : ShP w7 w1.heap.size base (.slice (some a4) s.length c4) s := s4.fr F7 (fun g hg => ⟨(s4.own.lt g hg).2, hX g (.inl (s4.own.lt g hg).1)⟩) (by omega) hXb
    have hE7 := F67.size
    have hlk : (s.take k).length = k := by rw [List.length_take]; omega
    have hpv : ∀ x ∈ s, vecB x.1.pt 4 = true := fun x hx => hvr x (hP.out.mem_iff.1 hx)
    have hkS : KeysD (s.map Prod.fst) := hkr.perm (hP.out.map Prod.fst)
    have hgb : ∀ ad, some a4 = some ad → ad.block ≠ nc ∧ g5 ≠ ad.block := fun ad e => by
      injection e with e
      rw [← e]
      rw [block_of_add] at hga
      refine ⟨fun e2 => ?_, hga⟩
      obtain ⟨g4, eg4, _, hg4, hg4b⟩ := s4.form (by omega)
      injection eg4 with eg4
      rw [eg4] at e2
      have e3 : g4 = nc := e2
      omega
    have hsr := HS.out
    have IH1 := ih (s.take k) (some a4) c4 (N ++ [(⟨top.key, rad, 0, 0⟩ : Nd)]) _ w7.drew (by omega) (by omega) hm4 (by simp; omega) (by rw [List.map_take]; exact hkS.sub (List.take_sublist _ _)) (fun x hx => hpv x (List.mem_of_mem_take hx)) (s7.row.2.take k) (fun x hx => (s7.pts x (List.mem_of_mem_take hx)).keep (Grow.drew w7) (by omega)) (fun ad e _ => ⟨(hgb ad e).1, fun e2 => (hgb ad e).2 (by have e3 : some g5 = some ad.block := e2; injection e3)⟩) he7.drew (o7.grow (Grow.drew w7)) hb
    rw [hlk] at IH1
    have hl1 : ((N ++ [(⟨top.key, rad, 0, 0⟩ : Nd)]).length : Int) = (N.length : Int) + 1 := by simp
    rw [hl1] at IH1
    obtain ⟨T1, hT1⟩ : ∃ T, T = treeOf kind n ((s.take k).map Prod.fst) := ⟨_, rfl⟩
    rw [← hT1] at IH1
    have hT1s : T1.size = k := by rw [hT1, tree_size kind (by rw [List.length_map, hlk]; omega), List.length_map, hlk]
    obtain ⟨near, hnear⟩ : ∃ z, z = T1.ix ((N.length : Int) + 1) := ⟨_, rfl⟩
    obtain ⟨N8, hN8⟩ : ∃ L, L = N ++ [(⟨top.key, rad, 0, 0⟩ : Nd)] ++ T1.nodes ((N.length : Int) + 1) := ⟨_, rfl⟩
    rw [← hnear, ← hN8] at IH1
    have hN8l : N8.length = N.length + 1 + k := by rw [hN8]; simp [nodes_len, hT1s]; omega
    have HT1 := Lib.hid hT1
    have HNe := Lib.hid hnear
    have HN8 := Lib.hid hN8
    have HL8 := Lib.hid hN8l
    have HS1 := Lib.hid hT1s
    have HLK := Lib.hid hlk
    clear hT1 hnear hN8 hN8l hT1s hlk hl1
    have y7 := he7.cf
    have hkc : k ≤ c4 := by omega
    clear y1 y2 y3 x1 x6 f6 hw7 hsr
    go_wp2_with fail
    go_region_held3 (fun w' => w'.cell? ⟨fc, 0, none⟩ = some (.func (.func 70) #[] #[.pointer (some ⟨kb, 0, none⟩), .pointer (some ⟨nc, 0, none⟩), .pointer (some ⟨fc, 0, none⟩)]))
      (first | (exact y7) | assumption | go_keep)
      (first | (go_at_call 70; refine IH1.mono ?_; rintro e w8 ⟨rfl, v8, he8, o8, F78, NB8⟩; have y8 := he8.cf))
    rename_i hH
    clear hH
    have F8 : FrB w4.heap.size (XN nc (.slice An N.length cn)) w4 w8 := (F7.trans (FrB.drew _ _ _)).trans (F78.less (by show w4.heap.size ≤ w7.heap.size; omega) (fun k hk hx => xn_back NB5 hk hx))
    have hE8 := F8.size
    have NB08 : NewB w4.heap.size (.slice An N.length cn) v8 := NB5.trans NB8 (by show w4.heap.size ≤ w7.heap.size; omega)
    have s8 : ShP w8 w1.heap.size base (.slice (some a4) s.length c4) s := s4.fr F8 (fun g hg => ⟨(s4.own.lt g hg).2, hX g (.inl (s4.own.lt g hg).1)⟩) (by omega) hXb
    obtain ⟨A8, c8, rfl, hc8, hm8, _⟩ := o8.open_
    have far8 : ∀ k, k < w4.heap.size → (Value.slice An N.length cn).ownBlock ≠ some k → (Value.slice A8 N8.length c8).ownBlock ≠ some k := fun k hk hne e => by
      rcases NB08 with h | ⟨g, hg, hg2⟩
      · exact hne (h.symm.trans e)
      · rw [hg] at e; injection e with e; omega
    have ha4 : a4.block < w4.heap.size ∧ w1.heap.size ≤ a4.block := by
      obtain ⟨g4, eg4, _, hg4, hg4b⟩ := s4.form (by omega)
      injection eg4 with eg4
      rw [eg4]; exact ⟨hg4b, hg4⟩
    have hg8 : ∀ ad : Addr, ad.block = a4.block → ad.block ≠ nc ∧ (Value.slice A8 N8.length c8).ownBlock ≠ some ad.block := fun ad e => by
      rw [e]
      exact ⟨by omega, far8 _ ha4.1 (fun e => by have := hvo _ e; omega)⟩
    have hld : (s.drop k).length = s.length - k := List.length_drop
    have hcut8 := s8.row.2.cut (k := k) (cap := c4) hks hl4
    obtain ⟨T2, hT2⟩ : ∃ T, T = treeOf kind n ((s.drop k).map Prod.fst) := ⟨_, rfl⟩
    have HL8' := HL8.out
    have hsr := HS.out
    have IH2 := fun (A : Option Addr) (c : Nat) (h1 : (s.drop k).length ≤ c) (h2 : c ≤ maxLen) (h3 : RowI w8.drew A (s.drop k)) (h4 : ∀ ad, A = some ad → 0 < (s.drop k).length → ad.block ≠ nc ∧ (Value.slice A8 N8.length c8).ownBlock ≠ some ad.block) =>
      ih (s.drop k) A c N8 _ w8.drew (by omega) h1 h2 (by omega) (by rw [List.map_drop]; exact hkS.sub (List.drop_sublist _ _)) (fun x hx => hpv x (List.mem_of_mem_drop hx)) h3 (fun x hx => (s8.pts x (List.mem_of_mem_drop hx)).keep (Grow.drew w8) (by omega)) h4 he8.drew (o8.grow (Grow.drew w8)) hb
    have hT2s : T2.size = s.length - k := by rw [hT2, tree_size kind (by rw [List.length_map, hld]; omega), List.length_map, hld]
    rw [← hT2] at IH2
    obtain ⟨far, hfar⟩ : ∃ z, z = T2.ix N8.length := ⟨_, rfl⟩
    obtain ⟨N9, hN9⟩ : ∃ L, L = N8 ++ T2.nodes N8.length := ⟨_, rfl⟩
    rw [← hfar, ← hN9, hld] at IH2
    have hN9l : N9.length = N.length + 1 + s.length := by rw [hN9, List.length_append, nodes_len, hT2s, HL8.out]; omega
    have HT2 := Lib.hid hT2
    have HFa := Lib.hid hfar
    have HN9 := Lib.hid hN9
    have HL9 := Lib.hid hN9l
    have HLD := Lib.hid hld
    clear hT2 hfar hN9 hN9l hT2s hld hsr HL8' y7
    go_upto_region 12 with fail
    go_cut [11] (fun v11 wc => v11 = .int .i64 far ∧ ∃ v9, TEnv wc kind kb nc fc v9 ∧ OwnK nodeP wc base wc.heap.size v9 N9 ∧ FrB w8.heap.size (XN nc (.slice A8 N8.length c8)) w8 wc ∧ NewB w8.heap.size (.slice A8 N8.length c8) v9)
    case first =>
      by_cases hck : c4 = k
      · rw [if_pos hck] at hcut8
        have hz : s.length - k = 0 := by omega
        have IH3 := IH2 (some a4) 0 (by omega) (Nat.zero_le _) (Reads.drew hcut8) (fun ad e _ => hg8 ad (by injection e with e; rw [e]))
        rw [hz] at IH3
        subst hck
        clear IH2
        go_region_held3 (fun w' => w'.cell? ⟨fc, 0, none⟩ = some (.func (.func 70) #[] #[.pointer (some ⟨kb, 0, none⟩), .pointer (some ⟨nc, 0, none⟩), .pointer (some ⟨fc, 0, none⟩)]))
          (first | (exact y8) | assumption | go_keep)
          (first | (go_at_call 70; refine IH3.mono ?_; rintro e w9 ⟨rfl, v9, he9, o9, F89, NB9⟩; have y9 := he9.cf))
        go_wp2_with fail
        go_meet
        exact ⟨rfl, v9, he9, o9, (FrB.drew _ _ _).trans F89, NB9⟩
      · rw [if_neg hck] at hcut8
        have hck2 : k < c4 := by omega
        have IH3 := IH2 (some (a4.add (k * 3))) (c4 - k) (by omega) (by omega) (Reads.drew hcut8) (fun ad e _ => hg8 ad (by injection e with e; rw [← e, block_of_add]))
        clear IH2
        go_region_held3 (fun w' => w'.cell? ⟨fc, 0, none⟩ = some (.func (.func 70) #[] #[.pointer (some ⟨kb, 0, none⟩), .pointer (some ⟨nc, 0, none⟩), .pointer (some ⟨fc, 0, none⟩)]))
          (first | (exact y8) | assumption | go_keep)
          (first | (go_at_call 70; refine IH3.mono ?_; rintro e w9 ⟨rfl, v9, he9, o9, F89, NB9⟩; have y9 := he9.cf))
        go_wp2_with fail
        go_meet
        exact ⟨rfl, v9, he9, o9, (FrB.drew _ _ _).trans F89, NB9⟩
    case rest =>
      obtain ⟨rfl, v9, he9, o9, F89, NB9⟩ := hcut
      have F9 : FrB w4.heap.size (XN nc (.slice An N.length cn)) w4 wc := F8.trans (F89.less hE8 (fun k hk hx => xn_back NB08 hk hx))
      have NB09 : NewB w4.heap.size (.slice An N.length cn) v9 := NB08.trans NB9 hE8
      obtain ⟨A9, c9, rfl, hc9, hm9, _⟩ := o9.open_
      obtain ⟨g9, rfl, _, h91, h92, h93⟩ := o9.form (by rw [HL9.out]; omega)
      have hE9 := F9.size
      have hN9 : N9 = N ++ ((⟨top.key, rad, 0, 0⟩ : Nd) :: (T1.nodes ((N.length : Int) + 1) ++ T2.nodes N8.length)) := by
        have e8 := HN8.out
        rw [HN9.out]
        generalize T2.nodes (N8.length : Int) = X
        rw [e8]; simp
      have h9 : N9[N.length]? = some ⟨top.key, rad, 0, 0⟩ := by rw [hN9, List.getElem?_append_right (Nat.le_refl _), Nat.sub_self]; rfl
      have hS9 : ∀ y : Nd, N9.set N.length y = N ++ (y :: (T1.nodes ((N.length : Int) + 1) ++ T2.nodes N8.length)) := fun y => by rw [hN9, List.set_append_right _ _ (Nat.le_refl _), Nat.sub_self]; rfl
      have fn : Fits near := by rw [HNe.out, HT1.out]; exact ix_fits (by rw [List.length_map, HLK.out]; have := HS.out; omega) (by omega) (by omega)
      have ff : Fits far := by rw [HFa.out, HT2.out]; exact ix_fits (by rw [List.length_map, HLD.out]; have := HS.out; omega) (by omega) (by have := HL8.out; omega)
      have oA := o9.set_ (i := N.length) (j := 2) (x := ⟨top.key, rad, 0, 0⟩) (y := ⟨top.key, rad, near, 0⟩) (z := near) rfl h9 (by show 2 < 4; omega) rfl fn
      have oB := oA.set_ (i := N.length) (j := 3) (x := ⟨top.key, rad, near, 0⟩) (y := ⟨top.key, rad, near, far⟩) (z := far) (by simp) (by rw [List.getElem?_set_self (by rw [HL9.out]; omega)]) (by show 3 < 4; omega) rfl ff
      rw [List.set_set, hS9] at oB
      have q2 := o9.cellAt (i := N.length) (j := 2) rfl h9 rfl
      have q3 := o9.cellAt (i := N.length) (j := 3) rfl h9 rfl
      have p2 := o9.frozenAt (N.length * 4 + 2) rfl
      have p3 := o9.frozenAt (N.length * 4 + 3) rfl
      have y9 : wc.cell? ⟨nc, 0, none⟩ = some (.slice (some ⟨g9, 0, none⟩) N9.length c9) := he9.bn.cell 0
      have hgn9 : g9 ≠ nc := fun e => he9.o2 (by rw [e]; rfl)
      have hgn9' : nc ≠ g9 := fun e => hgn9 e.symm
      have i9 : N.length < N9.length := by rw [HL9.out]; omega
      have FE : FrB wc.heap.size (XN nc (.slice (some ⟨g9, 0, none⟩) N9.length c9)) wc ((wc.setCell ⟨g9, N.length * 4 + 2, none⟩ (.int .i64 near)).setCell ⟨g9, N.length * 4 + 3, none⟩ (.int .i64 far)) := (FrB.set_ _ _ _ _ (.inr rfl)).trans (FrB.set_ _ _ _ _ (.inr rfl))
      have heE := he9.step FE (by omega) (by omega) (by omega) ((he9.bn.far hgn9' _).far hgn9' _) (.inl rfl)
      have hrs : (r.map Prod.fst).length = s.length := by rw [List.length_map]; exact HS.out.symm
      have hkk : k = halfN (r.map Prod.fst).length := by rw [hrs, HK.out]; exact HM.out
      have hSl : (s.map Prod.fst).length = s.length := List.length_map ..
      have hrd : rad = radOf kind top.pt (s.map Prod.fst) := by
        unfold radOf
        rw [hSl, ← HM.out, if_pos (by omega), Nat.add_sub_cancel, HR.out, itI_of (x := ym) (by rw [List.getElem?_map, HQ.out, HY.out]; rfl)]
      have hfin2 : (N8.length : Int) = (N.length : Int) + 1 + T1.size := by rw [HS1.out, HL8.out]; omega
      have hfin := built_list (T1 := T1) (T2 := T2) (N := N) HD.out hkk (by rw [← List.map_take]; exact HT1.out) (by rw [← List.map_drop]; exact HT2.out) hrd HNe.out (far := far) (by rw [← hfin2]; exact HFa.out)
      rw [hfin2] at oB
      have HF := Lib.hid hfin
      clear hfin hfin2 hrd hSl hkk hrs hS9 h9 hN9 oA
      simp only [nodeP] at q2 q3
      go_wp2_with fail
      go_ret
      refine ⟨rfl, _, heE, by rw [HF.out]; exact oB.up, ?_, NB09.low (by omega)⟩
      exact (FrB.of_below g04 (Nat.le_refl _)).trans ((F9.less (by omega) (fun _ _ h => h)).trans (FE.less (by omega) (fun k hk hx => xn_back NB09 (by omega) hx)))
end Go.Proofs.Ytebiaodjodlloaa
namespace Go.Proofs.Ytebiaodjodlloaa
set_option linter.unusedVariables false
open Go Go.RowKit

set_option maxRecDepth 20000 in
set_option maxHeartbeats 3200000 in
theorem built_leaf {kind : Int} {kb nc fc base n : Nat} (q : It × Value) (r : List (It × Value)) (A : Option Addr) (c : Nat) (N : List Nd) (v : Value) (w : World)
    (hr : Hid (r.length = 0)) (hc : r.length + 1 ≤ c) (hcm : c ≤ maxLen) (hN : N.length + (r.length + 1) ≤ 1000) (hkd : KeysD (q.1 :: r.map Prod.fst)) (hv : ∀ x ∈ q :: r, vecB x.1.pt 4 = true) (hrow : RowI w A (q :: r)) (hpt : ∀ x ∈ q :: r, PtAt w base x)
    (hA : ∀ ad, A = some ad → ad.block ≠ nc ∧ v.ownBlock ≠ some ad.block) (he : TEnv w kind kb nc fc v) (ho : OwnK nodeP w base w.heap.size v N) (hb : base ≤ nc) :
    Calls Try.prog 70 #[.slice A (r.length + 1) c, .pointer (some ⟨kb, 0, none⟩), .pointer (some ⟨nc, 0, none⟩), .pointer (some ⟨fc, 0, none⟩)] w
      fun e w' => e = .returned (.int .i64 N.length) ∧ ∃ v', TEnv w' kind kb nc fc v' ∧ OwnK nodeP w' base w'.heap.size v' (N ++ (treeOf kind (n + 1) (q.1 :: r.map Prod.fst)).nodes N.length) ∧
        FrB w.heap.size (XN nc v) w w' ∧ NewB w.heap.size v v' := by
  obtain ⟨hkb, hnc, hfc⟩ := he.kl
  obtain ⟨ad, rfl, had, c0, c1, c2⟩ := hrow.head
  obtain ⟨Aq, cq, hq2, _, _, rq, _, _⟩ := hpt q (List.mem_cons_self ..)
  rw [hq2] at c1
  obtain ⟨_, _, _, _, _, _, hfq, _⟩ := hpt q (List.mem_cons_self ..)
  obtain ⟨top, htop⟩ : ∃ t : It, t = q.1 := ⟨_, rfl⟩
  rw [← htop] at c0 c1 c2 rq hkd hfq ⊢
  have hfk : ∀ z ∈ nodeP.f ⟨top.key, 0, 0, 0⟩, Fits z := fun z hz => by
    simp [nodeP] at hz
    rcases hz with rfl | rfl
    · exact hfq
    · exact ⟨by omega, by omega⟩
  have hvt : vecB top.pt 4 = true := by rw [htop]; exact hv q (List.mem_cons_self ..)
  obtain ⟨w1, hw1⟩ : ∃ w1, w1 = w.alloc (.cells #[.int .i64 top.key, .slice Aq top.pt.length cq, .int .i64 top.tags] 43) := ⟨_, rfl⟩
  have b1 : Blk w1 w.heap.size 43 #[.int .i64 top.key, .slice Aq top.pt.length cq, .int .i64 top.tags] := by rw [hw1]; exact Blk.new _ _ _
  have g1 : Grow w w1 := by rw [hw1]; exact (Below.refl _ _).alloc (Nat.le_refl _) _
  have HW := Lib.hid hw1
  have hvr : ∀ x ∈ r, vecB x.1.pt 4 = true := fun x hx => hv x (List.mem_cons_of_mem _ hx)
  have hptr : ∀ x ∈ r, PtAt w base x := fun x hx => hpt x (List.mem_cons_of_mem _ hx)
  have hkr : KeysD (r.map Prod.fst) := (List.pairwise_cons.1 hkd).2
  have hcut0 := hrow.cut (k := 1) (cap := c) (by simp) (by simpa using hc)
  simp only [List.drop_succ_cons, List.drop_zero, Option.map_some] at hcut0
  have HT := Lib.hid htop
  have gA : Grow w1 (w1.alloc (.cells #[] 43)) := (Below.refl _ _).alloc (Nat.le_refl _) _
  have hcut1 := hcut0.grow (Grow.trans g1 gA)
  have hz1 := g1.size
  have hptA : ∀ x ∈ r, PtAt (w1.alloc (.cells #[] 43)) base x := fun x hx => (hptr x hx).keep (Grow.trans g1 gA) (by omega)
  clear hw1 hv hpt hrow hq2 htop hcut0
  go_enter Try.func70, Try.ntmps70
  go_upto_region 4 with fail
  rw [← HW.out]
  go_cut [7] (fun v7 wc => ShP wc w1.heap.size base v7 r ∧ Below w1.heap.size w1 wc)
  case first =>
    by_cases hc1 : c = 1
    · have hr0 : r.length = 0 := by omega
      obtain rfl : r = [] := List.eq_nil_of_length_eq_zero hr0
      subst hc1
      go_wp2_with (at_builtin; go_must (refine wpList_copyS (p2 := []) rfl _ _ rfl (by rfl) (by rfl) rfl (ShP.lit w1 base) (RowI.nil_ _ _) hptA (by omega) gA.size (by simp) (by simp) ?_); intro v3 w3 s3 b3)
      go_meet
      exact ⟨s3, Below.trans gA b3⟩
    · rw [if_neg hc1] at hcut1
      have hc2 : 1 < c := by omega
      go_wp2_with (at_builtin; go_must (refine wpList_copyS rfl _ _ rfl (by rfl) (by rfl) rfl (ShP.lit w1 base) hcut1 hptA (by omega) gA.size (by simp) (by omega) ?_); intro v3 w3 s3 b3)
      go_meet
      exact ⟨s3, Below.trans gA b3⟩
  case rest =>
    obtain ⟨s3, b3⟩ := hcut
    have e3 := b3.size
    have g3 : Grow w wc := Below.trans g1 (Below.mono b3 hz1)
    have hlt := b1.lt
    have rt3 : RI wc base Aq top.pt := rq.below (Below.mono g3 (by omega))
    have k3 : wc.cell? ⟨kb, 0, none⟩ = some (.int .i64 kind) := (g3.cell hkb).trans he.ck
    have t3 : wc.cell? ⟨w.heap.size, 1, none⟩ = some (.slice Aq top.pt.length cq) := (b3.cell hlt).trans (b1.cell 1)
    go_wp2_with fail
    refine (sort_items kind kb w.heap.size top Aq cq r _ w1.heap.size base wc s3 (by omega) k3 t3 (by omega) hlt e3 rt3 hvt hvr (by omega) hkr).mono ?_
    rintro e w4 ⟨rfl, s, hsp, hsd, s4, t4⟩
    have g14 : Grow w1 w4 := Below.trans b3 (t4.below e3 (Nat.le_refl _))
    have g04 : Grow w w4 := Below.trans g1 (Below.mono g14 hz1)
    have e4 := g14.size
    obtain rfl : s = [] := List.eq_nil_of_length_eq_zero (hsp.length_eq.trans hr.out)
    have HP := Lib.hid hsp
    clear hsp hsd
    obtain ⟨A4, c4, rfl, hl4, hm4⟩ := s4.open_
    have hq : Int.tdiv ((0 : Int) + 1) 2 = 0 := by decide
    have hq2 : Int.tdiv (1 : Int) 2 = 0 := by decide
    have bn4 := he.bn.below g04 hnc
    have ho4 := ho.grow g04
    obtain ⟨An, cn, rfl, _, _, _⟩ := ho.open_
    have z4 : w4.cell? ⟨nc, 0, none⟩ = some (.slice An N.length cn) := bn4.cell 0
    have bt4 := b1.below g14 hlt
    have t40 : w4.cell? ⟨w.heap.size, 0, none⟩ = some (.int .i64 top.key) := bt4.cell 0
    have hne := he.o2
    clear s3 t3 k3 rt3 hcut1 hptA
    go_upto_region 9 with (at_builtin; go_must (refine wpList_pushK (y := ⟨top.key, 0, 0, 0⟩) node_in rfl _ _ rfl (by rfl) (by rfl) rfl ho4 (by omega) (by omega) hfk ?_); intro v5 w5 o5 b5 gr5 nb5; obtain ⟨g5, c5, rfl, hg5, hh5, hc5⟩ := own_some o5; have bn5 := bn4.grown gr5 (fun e => hne e.symm); have z5 := bn5.cell 0; have f5 := bn5.frozen 0)
    obtain ⟨w6, hw6⟩ : ∃ w6, w6 = w5.setCell ⟨nc, 0, none⟩ (.slice (some ⟨g5, 0, none⟩) (N.length + 1) c5) := ⟨_, rfl⟩
    rw [← hw6]
    have NB5 : NewB w4.heap.size (.slice An N.length cn) (.slice (some ⟨g5, 0, none⟩) (N.length + 1) c5) := nb5
    have F6 : FrB w4.heap.size (XN nc (.slice An N.length cn)) w4 w6 := (FrB.of_grown gr5 (Nat.le_refl _) (fun k hk => .inr hk)).trans (by rw [hw6]; exact FrB.set_ _ _ _ _ (.inl rfl))
    have hk4 : kb < w4.heap.size := by omega
    have hf4 : fc < w4.heap.size := by omega
    have hn4 : nc < w4.heap.size := by omega
    have he4 : TEnv w4 kind kb nc fc (.slice An N.length cn) := he.step (s := w.heap.size) (FrB.of_below g04 (Nat.le_refl _)) hkb hfc hnc bn4 (.inl rfl)
    have he6 : TEnv w6 kind kb nc fc (.slice (some ⟨g5, 0, none⟩) (N.length + 1) c5) := he4.step F6 hk4 hf4 hn4 (by rw [hw6]; exact bn5.set_ 0 _) NB5
    have hgn : g5 ≠ nc := fun e => he6.o2 (by rw [e]; rfl)
    have hgn' : nc ≠ g5 := fun e => hgn e.symm
    have o6 : OwnK nodeP w6 base w6.heap.size (.slice (some ⟨g5, 0, none⟩) (N.length + 1) c5) (N ++ [⟨top.key, 0, 0, 0⟩]) := by
      have := o5.still (w' := w6) (fun g hg => by
        have hg' : some g5 = some g := hg
        injection hg' with hg'
        rw [hw6]; exact Below.heap_setCell w5 ⟨nc, 0, none⟩ _ g (by show g ≠ nc; omega))
      exact this.up
    have hb46 := F6.size
    have y6 := he6.cf
    have z6 : w6.cell? ⟨nc, 0, none⟩ = some (.slice (some ⟨g5, 0, none⟩) (N.length + 1) c5) := he6.bn.cell 0
    have q2 : w6.cell? ⟨g5, N.length * 4 + 2, none⟩ = some (.int .i64 0) := o6.cellAt (i := N.length) (j := 2) (x := ⟨top.key, 0, 0, 0⟩) (by simp) (by simp) rfl
    have q3 : w6.cell? ⟨g5, N.length * 4 + 3, none⟩ = some (.int .i64 0) := o6.cellAt (i := N.length) (j := 3) (x := ⟨top.key, 0, 0, 0⟩) (by simp) (by simp) rfl
    have p2 : w6.frozen? ⟨g5, N.length * 4 + 2, none⟩ = false := o6.frozenAt _ (by simp)
    have p3 : w6.frozen? ⟨g5, N.length * 4 + 3, none⟩ = false := o6.frozenAt _ (by simp)
    have hset : ∀ y : Nd, (N ++ [(⟨top.key, 0, 0, 0⟩ : Nd)]).set N.length y = N ++ [y] := fun y => by rw [List.set_append_right _ _ (Nat.le_refl _)]; simp
    have fm : Fits (-1) := ⟨by omega, by omega⟩
    have oA := ((o6.grow (Grow.drew w6)).grow (Grow.drew w6.drew)).set_ (i := N.length) (j := 2) (x := ⟨top.key, 0, 0, 0⟩) (y := ⟨top.key, 0, -1, 0⟩) (z := -1) (by simp) (by simp) (by show 2 < 4; omega) rfl fm
    rw [hset] at oA
    have oB := oA.set_ (i := N.length) (j := 3) (x := ⟨top.key, 0, -1, 0⟩) (y := ⟨top.key, 0, -1, -1⟩) (z := -1) (by simp) (by simp) (by show 3 < 4; omega) rfl fm
    have hset2 : ∀ y : Nd, (N ++ [(⟨top.key, 0, -1, 0⟩ : Nd)]).set N.length y = N ++ [y] := fun y => by rw [List.set_append_right _ _ (Nat.le_refl _)]; simp
    rw [hset2] at oB
    have FE : FrB w6.heap.size (XN nc (.slice (some ⟨g5, 0, none⟩) (N.length + 1) c5)) w6 ((w6.drew.drew.setCell ⟨g5, N.length * 4 + 2, none⟩ (.int .i64 (-1))).setCell ⟨g5, N.length * 4 + 3, none⟩ (.int .i64 (-1))) := (((FrB.drew _ _ _).trans (FrB.drew _ _ _)).trans (FrB.set_ _ _ _ _ (.inr rfl))).trans (FrB.set_ _ _ _ _ (.inr rfl))
    have heE := he6.step FE (by omega) (by omega) (by omega) ((he6.bn.drew.drew.far hgn' _).far hgn' _) (.inl rfl)
    have i4 : (0 : Int) ≤ (N.length : Int) := by omega
    have i5 : (N.length : Int) < (N.length : Int) + 1 := by omega
    clear hw6 z5 f5 t40 z4 bn5 bn4 hset hset2 oA
    go_wp2_with fail
    go_region_held3 (fun w' => w'.cell? ⟨fc, 0, none⟩ = some (.func (.func 70) #[] #[.pointer (some ⟨kb, 0, none⟩), .pointer (some ⟨nc, 0, none⟩), .pointer (some ⟨fc, 0, none⟩)]))
      (first | (exact y6) | assumption | go_keep)
      (first | (go_at_call 70; refine (built_nil _ _ _ _ _ _).mono ?_; rintro e w8 ⟨rfl, rfl⟩))
    go_upto_region 12 with fail
    go_cut [11] (fun v11 wc => v11 = .int .i64 (-1) ∧ wc = w6.drew.drew)
    case first =>
      by_cases hck : c4 = 0
      · subst hck
        go_region_held3 (fun w' => w'.cell? ⟨fc, 0, none⟩ = some (.func (.func 70) #[] #[.pointer (some ⟨kb, 0, none⟩), .pointer (some ⟨nc, 0, none⟩), .pointer (some ⟨fc, 0, none⟩)]))
          (first | (exact y6) | assumption | go_keep)
          (first | (go_at_call 70; refine (built_nil _ _ _ _ _ _).mono ?_; rintro e w8 ⟨rfl, rfl⟩))
        go_wp2_with fail
        go_meet
        exact ⟨rfl, rfl⟩
      · rcases A4 with _ | a4
        · go_region_held3 (fun w' => w'.cell? ⟨fc, 0, none⟩ = some (.func (.func 70) #[] #[.pointer (some ⟨kb, 0, none⟩), .pointer (some ⟨nc, 0, none⟩), .pointer (some ⟨fc, 0, none⟩)]))
            (first | (exact y6) | assumption | go_keep)
            (first | (go_at_call 70; refine (built_nil _ _ _ _ _ _).mono ?_; rintro e w8 ⟨rfl, rfl⟩))
          go_wp2_with fail
          go_meet
          exact ⟨rfl, rfl⟩
        · go_region_held3 (fun w' => w'.cell? ⟨fc, 0, none⟩ = some (.func (.func 70) #[] #[.pointer (some ⟨kb, 0, none⟩), .pointer (some ⟨nc, 0, none⟩), .pointer (some ⟨fc, 0, none⟩)]))
            (first | (exact y6) | assumption | go_keep)
            (first | (go_at_call 70; refine (built_nil _ _ _ _ _ _).mono ?_; rintro e w8 ⟨rfl, rfl⟩))
          go_wp2_with fail
          go_meet
          exact ⟨rfl, rfl⟩
    case rest =>
      obtain ⟨rfl, rfl⟩ := hcut
      go_wp2_with fail
      go_ret
      have hnil : r = [] := List.eq_nil_of_length_eq_zero hr.out
      have hfin : N ++ (treeOf kind (n + 1) (top :: r.map Prod.fst)).nodes N.length = N ++ [(⟨top.key, 0, -1, -1⟩ : Nd)] := by
        rw [hnil]
        have h0 : byD kind top.pt [] = [] := rfl
        simp [treeOf, h0, treeOf_nil, Tr.nodes, Tr.ix, radOf, halfN]
      refine ⟨rfl, _, heE, by rw [hfin]; exact oB.up, ?_, NB5.low (by omega)⟩
      exact (FrB.of_below g04 (Nat.le_refl _)).trans ((F6.less (by omega) (fun _ _ h => h)).trans (FE.less (by omega) (fun k hk hx => xn_back NB5 (by omega) hx)))

theorem impl_build (kind : Int) (kb nc fc base : Nat) : ∀ n, Built kind kb nc fc base n
  | 0 => fun p A c N v w hn hc hcm hN hkd hv hrow hpt hA he ho hb => by
    obtain rfl : p = [] := List.eq_nil_of_length_eq_zero (by omega)
    refine (built_nil _ _ _ _ _ _).mono ?_
    rintro e w' ⟨rfl, rfl⟩
    exact ⟨rfl, v, he, by simpa [treeOf, Tr.nodes] using ho, FrB.refl _ _ _, .inl rfl⟩
  | n + 1 => fun p A c N v w hn hc hcm hN hkd hv hrow hpt hA he ho hb => by
    match p, hn, hc, hN, hkd, hv, hrow, hpt, hA with
    | [], hn, hc, hN, hkd, hv, hrow, hpt, hA =>
      refine (built_nil _ _ _ _ _ _).mono ?_
      rintro e w' ⟨rfl, rfl⟩
      exact ⟨rfl, v, he, by simpa [treeOf, Tr.nodes] using ho, FrB.refl _ _ _, .inl rfl⟩
    | q :: r, hn, hc, hN, hkd, hv, hrow, hpt, hA =>
      simp only [List.length_cons] at hn hc hN
      rcases Nat.eq_zero_or_pos r.length with h0 | h0
      · exact built_leaf q r A c N v w (Lib.hid h0) hc hcm hN hkd hv hrow hpt (fun ad e => hA ad e (by simp)) he ho hb
      · exact built_cons (impl_build kind kb nc fc base n) q r A c N v w h0 (by omega) hc hcm hN hkd hv hrow hpt (fun ad e => hA ad e (by simp)) he ho hb
end Go.Proofs.Ytebiaodjodlloaa
namespace Go.Proofs.Ytebiaodjodlloaa
set_option linter.unusedVariables false
open Go Go.RowKit

theorem RS.rowI {w : World} {A : Option Addr} {l : List It} (h : RS w w.heap.size A l) : ∃ p : List (It × Value), p.map Prod.fst = l ∧ RowI w A p ∧ (∀ q ∈ p, PtAt w w.heap.size q) ∧ ∀ ad, A = some ad → 0 < p.length → ad.block < w.heap.size := by
  obtain ⟨p, rfl, hc, hq⟩ := h.rows
  have key : 0 < p.length → ∃ ad, A = some ad ∧ ad.block < w.heap.size := fun hn => by
    obtain ⟨ad, _, _, _, e, hb, _⟩ := h.at_ (k := 0) (by simpa using hn)
    exact ⟨ad, e, hb⟩
  refine ⟨p, rfl, ⟨flatS_len p, fun hn => ?_⟩, hq, fun ad e hn => ?_⟩
  · obtain ⟨ad, e, hb⟩ := key hn
    exact ⟨ad, e, hb, hc ad e⟩
  · obtain ⟨ad', e', hb⟩ := key hn
    rw [e] at e'; injection e' with e'
    rw [e']; exact hb
set_option maxRecDepth 20000 in
set_option maxHeartbeats 1600000 in
theorem impl_buildTree (A : Option Addr) (c : Nat) (l : List It) (kind : Int) (w : World) (h : RS w w.heap.size A l) (hc : l.length ≤ c) (hcm : c ≤ maxLen) (hl : l.length ≤ 1000) (hkd : KeysD l) (hv : ∀ y ∈ l, vecB y.pt 4 = true) :
    Calls Try.prog 42 #[.slice A l.length c, .int .i64 kind] w fun e w' => ∃ u, e = .returned u ∧ OwnK nodeP w' w.heap.size w'.heap.size u ((treeT l kind).nodes 0) ∧ Grow w w' := by
  obtain ⟨p, rfl, hrow, hpt, hA⟩ := h.rowI
  have hpl : (p.map Prod.fst).length = p.length := List.length_map ..
  rw [hpl] at hc hl ⊢
  have HP := Lib.hid hpl
  clear hpl
  go_enter Try.func42, Try.ntmps42
  go_upto_region 4 with fail
  obtain ⟨w4, hw4⟩ : ∃ w4, w4 = (((w.alloc (.cells #[.int .i64 kind] 3)).alloc (.cells #[] 30)).alloc (.cells #[.slice (some ⟨w.heap.size + 1, 0, none⟩) 0 0] 26)).alloc (.cells #[.func (.func 70) #[] #[.pointer (some ⟨w.heap.size, 0, none⟩), .pointer (some ⟨w.heap.size + 1 + 1, 0, none⟩), .pointer (some ⟨w.heap.size + 1 + 1 + 1, 0, none⟩)]] 87) := ⟨_, rfl⟩
  rw [← hw4]
  have b0 : Blk w4 w.heap.size 3 #[.int .i64 kind] := by rw [hw4]; exact (((Blk.new w _ _).alloc _).alloc _).alloc _
  have b2 : Blk w4 (w.heap.size + 1 + 1) 26 #[.slice (some ⟨w.heap.size + 1, 0, none⟩) 0 0] := by
    rw [hw4]
    have := (Blk.new ((w.alloc (.cells #[.int .i64 kind] 3)).alloc (.cells #[] 30)) 26 #[.slice (some ⟨w.heap.size + 1, 0, none⟩) 0 0]).alloc (.cells #[.func (.func 70) #[] #[.pointer (some ⟨w.heap.size, 0, none⟩), .pointer (some ⟨w.heap.size + 1 + 1, 0, none⟩), .pointer (some ⟨w.heap.size + 1 + 1 + 1, 0, none⟩)]] 87)
    simpa only [World.size_alloc] using this
  have b3 : Blk w4 (w.heap.size + 1 + 1 + 1) 87 #[.func (.func 70) #[] #[.pointer (some ⟨w.heap.size, 0, none⟩), .pointer (some ⟨w.heap.size + 1 + 1, 0, none⟩), .pointer (some ⟨w.heap.size + 1 + 1 + 1, 0, none⟩)]] := by
    rw [hw4]
    have := Blk.new (((w.alloc (.cells #[.int .i64 kind] 3)).alloc (.cells #[] 30)).alloc (.cells #[.slice (some ⟨w.heap.size + 1, 0, none⟩) 0 0] 26)) 87 #[.func (.func 70) #[] #[.pointer (some ⟨w.heap.size, 0, none⟩), .pointer (some ⟨w.heap.size + 1 + 1, 0, none⟩), .pointer (some ⟨w.heap.size + 1 + 1 + 1, 0, none⟩)]]
    simpa only [World.size_alloc] using this
  have g4 : Grow w w4 := by rw [hw4]; exact ((((Below.refl _ _).alloc (Nat.le_refl _) _).alloc (by simp) _).alloc (by simp; omega) _).alloc (by simp; omega) _
  have hob : ∀ k, (Value.slice (some ⟨w.heap.size + 1, 0, none⟩) 0 0).ownBlock = some k → k = w.heap.size + 1 := fun k e => by
    have e' : some (w.heap.size + 1) = some k := e
    injection e' with e'
    exact e'.symm
  have he : TEnv w4 kind w.heap.size (w.heap.size + 1 + 1) (w.heap.size + 1 + 1 + 1) (.slice (some ⟨w.heap.size + 1, 0, none⟩) 0 0) :=
    ⟨b0.cell 0, b2, b3.cell 0, by omega, by omega, fun e => by have := hob _ e; omega, fun e => by have := hob _ e; omega, fun e => by have := hob _ e; omega⟩
  have ho : OwnK nodeP w4 w.heap.size w4.heap.size (.slice (some ⟨w.heap.size + 1, 0, none⟩) 0 0) [] := by
    have h0 := OwnK.lit (p := nodeP) (w.alloc (.cells #[.int .i64 kind] 3))
    have h1 := (h0.grow ((Below.refl _ _).alloc (Nat.le_refl _) (.cells #[.slice (some ⟨w.heap.size + 1, 0, none⟩) 0 0] 26))).grow ((Below.refl _ _).alloc (Nat.le_refl _) (.cells #[.func (.func 70) #[] #[.pointer (some ⟨w.heap.size, 0, none⟩), .pointer (some ⟨w.heap.size + 1 + 1, 0, none⟩), .pointer (some ⟨w.heap.size + 1 + 1 + 1, 0, none⟩)]] 87))
    rw [hw4]
    have h2 := h1.up.lower (lo' := w.heap.size) (by simp) (Nat.le_refl _)
    simp only [World.size_alloc] at h2 ⊢
    exact h2
  have hb := impl_build kind w.heap.size (w.heap.size + 1 + 1) (w.heap.size + 1 + 1 + 1) w.heap.size p.length p A c [] _ w4 (Nat.le_refl _) hc hcm (by simpa using hl) hkd (fun q hq => hv _ (List.mem_map_of_mem hq)) (hrow.grow g4) (fun q hq => (hpt q hq).keep g4 (Nat.le_refl _))
    (fun ad e hn => ⟨fun e2 => by have := hA ad e hn; omega, fun e2 => by have := hob _ e2; have := hA ad e hn; omega⟩) he ho (by omega)
  have y3 : w4.cell? ⟨w.heap.size + 1 + 1 + 1, 0, none⟩ = some _ := b3.cell 0
  have HW := Lib.hid hw4
  clear hw4 b0 b2 b3 hrow hpt h
  go_wp2_with fail
  refine hb.mono ?_
  rintro e w5 ⟨rfl, v5, he5, o5, F5, _⟩
  have z5 : w5.cell? ⟨w.heap.size + 1 + 1, 0, none⟩ = some v5 := he5.bn.cell 0
  obtain ⟨A5, c5, rfl, _, _, _⟩ := o5.open_
  go_wp2_with fail
  go_ret
  refine ⟨_, rfl, ?_, ?_⟩
  · have ht : treeT (p.map Prod.fst) kind = treeOf kind p.length (p.map Prod.fst) := by unfold treeT; rw [HP.out]
    rw [ht]
    simpa using o5
  · exact Below.trans g4 (F5.below (B := w.heap.size) g4.size (fun k hk hx => by
      rcases hx with hx | hx
      · omega
      · have := hob k hx; omega))
end Go.Proofs.Ytebiaodjodlloaa
namespace Go.Proofs.Ytebiaodjodlloaa
set_option linter.unusedVariables false
open Go Go.RowKit

theorem impl_isTreeKind (kind : Int) (w : World) : Calls Try.prog 41 #[.int .i64 kind] w fun e w' => e = .returned (.bool (treeKind kind)) ∧ w = w' := by
  have HN := Lib.hid (show treeKind kind = (kindB kind && decide (kind ≠ 3)) from rfl)
  cases hk : kindB kind
  · go_enter Try.func41, Try.ntmps41
    go_wp2_with (go_at_call 53; refine (impl_isKind _ _).mono ?_; rintro e w' ⟨he, rfl⟩; rw [hk] at he; subst he)
    go_ret
    exact ⟨ret_bool (by rw [HN.out, hk]; rfl), rfl⟩
  · have HK := Lib.hid hk
    by_cases h3 : kind = 3
    · have hb : (kind != 3) = false := by simpa using h3
      have H3 := Lib.hid h3
      clear h3
      go_enter Try.func41, Try.ntmps41
      go_wp2_with (go_at_call 53; refine (impl_isKind _ _).mono ?_; rintro e w' ⟨he, rfl⟩; rw [hk] at he; subst he)
      go_ret
      exact ⟨ret_bool (by rw [HN.out, HK.out, decide_eq_false (fun h => h H3.out)]; rfl), rfl⟩
    · have hb : (kind != 3) = true := by simpa using h3
      have H3 := Lib.hid h3
      clear h3
      go_enter Try.func41, Try.ntmps41
      go_wp2_with (go_at_call 53; refine (impl_isKind _ _).mono ?_; rintro e w' ⟨he, rfl⟩; rw [hk] at he; subst he)
      go_ret
      exact ⟨ret_bool (by rw [HN.out, HK.out, decide_eq_true H3.out]; rfl), rfl⟩
theorem spec_isMetric (kind : Int) (w : World) : Calls Try.prog 44 #[.int .i64 kind] w fun e w' => e = .returned (.bool (treeKind kind)) ∧ w = w' := by
  have HN := Lib.hid (show treeKind kind = (kindB kind && decide (kind ≠ 3)) from rfl)
  cases hk : kindB kind
  · go_enter Try.func44, Try.ntmps44
    go_wp2_with (go_at_call 76; refine (spec_validKind _ _).mono ?_; rintro e w' ⟨he, rfl⟩; rw [hk] at he; subst he)
    go_ret
    exact ⟨ret_bool (by rw [HN.out, hk]; rfl), rfl⟩
  · have HK := Lib.hid hk
    by_cases h3 : kind = 3
    · have hb : (kind != 3) = false := by simpa using h3
      have H3 := Lib.hid h3
      clear h3
      go_enter Try.func44, Try.ntmps44
      go_wp2_with (go_at_call 76; refine (spec_validKind _ _).mono ?_; rintro e w' ⟨he, rfl⟩; rw [hk] at he; subst he)
      go_ret
      exact ⟨ret_bool (by rw [HN.out, HK.out, decide_eq_false (fun h => h H3.out)]; rfl), rfl⟩
    · have hb : (kind != 3) = true := by simpa using h3
      have H3 := Lib.hid h3
      clear h3
      go_enter Try.func44, Try.ntmps44
      go_wp2_with (go_at_call 76; refine (spec_validKind _ _).mono ?_; rintro e w' ⟨he, rfl⟩; rw [hk] at he; subst he)
      go_ret
      exact ⟨ret_bool (by rw [HN.out, HK.out, decide_eq_true H3.out]; rfl), rfl⟩
theorem treeV_no {l : List It} {kind : Int} (h : treeOk l kind = false) : treeV l kind = [] := by rw [treeV, h]; rfl
theorem treeV_of {l : List It} {kind : Int} (h : treeOk l kind = true) : treeV l kind = (treeT l kind).nodes 0 := by rw [treeV, if_pos h]
theorem impl_BuildTree (A : Option Addr) (c : Nat) (l : List It) (kind : Int) (w : World) (h : RS w w.heap.size A l) (hc : l.length ≤ c) (hcm : c ≤ maxLen) :
    Calls Try.prog 12 #[.slice A l.length c, .int .i64 kind] w fun e w' => ∃ u, e = .returned u ∧ OwnK nodeP w' w.heap.size w'.heap.size u (treeV l kind) ∧ Grow w w' := by
  have HN := Lib.hid (show treeOk l kind = (storeB l && treeKind kind) from rfl)
  cases hs : storeB l
  · rw [treeV_no (by rw [HN.out, hs]; rfl)]
    go_enter Try.func12, Try.ntmps12
    go_wp2_with (go_at_call 40; refine (impl_ValidStore _ _ _ _ h).mono ?_; rintro e w1 ⟨he, g1⟩; rw [hs] at he; subst he)
    go_ret
    exact ⟨_, rfl, OwnK.nil_, g1⟩
  · cases hk : treeKind kind
    · rw [treeV_no (by rw [HN.out, hk, Bool.and_false])]
      go_enter Try.func12, Try.ntmps12
      go_wp2_with (first | (go_at_call 40; refine (impl_ValidStore _ _ _ _ h).mono ?_; rintro e w1 ⟨he, g1⟩; rw [hs] at he; subst he) | (go_at_call 41; refine (impl_isTreeKind _ _).mono ?_; rintro e w' ⟨he, rfl⟩; rw [hk] at he; subst he))
      go_ret
      exact ⟨_, rfl, OwnK.nil_, g1⟩
    · rw [treeV_of (by rw [HN.out, hs, hk]; rfl)]
      have HS := Lib.hid hs
      have hl := storeB_len hs
      go_enter Try.func12, Try.ntmps12
      go_wp2_with (first | (go_at_call 40; refine (impl_ValidStore _ _ _ _ h).mono ?_; rintro e w1 ⟨he, g1⟩; rw [hs] at he; subst he) | (go_at_call 41; refine (impl_isTreeKind _ _).mono ?_; rintro e w' ⟨he, rfl⟩; rw [hk] at he; subst he))
      refine (impl_buildTree _ _ l kind w1 (h.grow g1) hc hcm (by omega) (storeB_asc HS.out).keysD (store_vecs HS.out)).mono ?_; rintro e w2 ⟨u, rfl, o2, g2⟩
      go_wp2_with fail
      go_ret
      exact ⟨_, rfl, o2.lower g1.size (Nat.le_refl _), g1.trans g2⟩
end Go.Proofs.Ytebiaodjodlloaa
