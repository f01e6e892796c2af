/- Searches in trees: the program's search, walked. -/
import Derived.Test.YtebiaodjodlloaaTreeU
import Derived.Test.YtebiaodjodlloaaPlainW
import Derived.Deep.RegionLaw
namespace Go.Proofs.Ytebiaodjodlloaa
set_option linter.unusedVariables false
open Go Go.RowKit

theorem OwnK.tight {α : Type} {p : Pod α} {w : World} {lo hi g n c : Nat} {l : List α} (h : OwnK p w lo hi (.slice (some ⟨g, 0, none⟩) n c) l) : OwnK p w g (g + 1) (.slice (some ⟨g, 0, none⟩) n c) l :=
  ⟨⟨h.own.1, h.own.2.imp id (fun ⟨g', cap, cur, h1, h2, h3⟩ => ⟨g', cap, cur, h1, by injection h1 with e; injection e with e; injection e with e; omega, h3⟩)⟩, fun k hk => by
    have hk' : some g = some k := hk
    injection hk' with hk'; omega, h.fit, h.len⟩
theorem impl_indexOf_fix (A : Option Addr) (c : Nat) (l : List It) (x : It) (n : Nat) (w : World) (h : RS w w.heap.size A l) (hkd : KeysD l) (hn : l[n]? = some x) :
    Calls Try.prog 64 #[.slice A l.length c, .int .i64 x.key] w fun e w' => e = .returned (.int .i64 n) ∧ Grow w w' := by
  refine (impl_indexOf A c l x.key w h).mono ?_
  rintro e w' ⟨i, rfl, hat, g⟩
  rcases hat with ⟨h0, _⟩ | ⟨_, n', rfl, hlt, hk, _⟩
  · rw [hasK_iff.2 ⟨x, List.mem_of_getElem? hn, rfl⟩] at h0; cases h0
  · have hn' := List.getElem?_eq_getElem hlt
    rw [itI_of hn'] at hk
    rw [keysD_ix hkd hn' hn hk]
    exact ⟨rfl, g⟩
set_option maxRecDepth 20000 in
theorem impl_reach {fb kk k lo hi : Nat} {v : Value} {F : List Ht} (w : World) (hf : w.cell? ⟨fb, 0, none⟩ = some v) (hkk : w.cell? ⟨kk, 0, none⟩ = some (.int .i64 k)) (ho : OwnK hitP w lo hi v F) (hk : 0 < k) (hk2 : k ≤ 1000) (hF : F.length ≤ 1000) :
    Calls Try.prog 62 #[.pointer (some ⟨fb, 0, none⟩), .pointer (some ⟨kk, 0, none⟩)] w fun e w' => e = .returned (.int .i64 (reachV F k)) ∧ Grow w w' := by
  obtain ⟨A, c, rfl, hc, hm, _⟩ := ho.open_
  by_cases hlt : F.length < k
  · have hr : reachV F k = 1000000 := if_pos hlt
    rw [hr]
    have hi : (F.length : Int) < (k : Int) := by omega
    go_enter Try.func62, Try.ntmps62
    go_wp2_with fail
    go_ret
    exact ⟨rfl, Grow.refl _⟩
  · obtain ⟨j, hj⟩ : ∃ j, F.length = j + 1 := ⟨F.length - 1, by omega⟩
    obtain ⟨ad, h, rfl, had, z0, z1, _, _, hh⟩ := ho.rk.hit (i := j) (by omega)
    have hr : reachV F k = h.dist := by unfold reachV; rw [if_neg hlt, hj, Nat.add_sub_cancel, hh.out]; rfl
    rw [hr]
    have hi : ¬ ((F.length : Int) < (k : Int)) := by omega
    have i1 : (F.length : Int) - 1 = (j : Int) := by omega
    have i2 : IntKind.i64.wrap (j : Int) = (j : Int) := by rw [IntKind.wrap_i64]; omega
    have i3 : (j : Int) < (F.length : Int) := by omega
    have i4 : (0 : Int) ≤ (j : Int) := by omega
    have HJ := Lib.hid hj
    clear hj hlt hr
    go_enter Try.func62, Try.ntmps62
    go_wp2_with fail
    go_ret
    exact ⟨rfl, Grow.refl _⟩

/-- How the blocks of the search's variables lie. -/
structure LkPos (nb q fb vb rc lk lb kb ab kk top : Nat) : Prop where
  h1 : lb < nb
  h2 : kb < nb
  h3 : ab < nb
  h4 : kk < nb
  h5 : nb < q
  h6 : q < fb
  h7 : fb < vb
  h8 : vb < rc
  h9 : rc < lk
  h10 : lk < top
def XL (fb vb : Nat) (v : Value) (k : Nat) : Prop := k = fb ∨ k = vb ∨ v.ownBlock = some k
theorem xl_back {s k fb vb : Nat} {v v' : Value} (hn : NewB s v v') (hk : k < s) (h : XL fb vb v' k) : XL fb vb v k := by
  rcases h with h | h | h
  · exact .inl h
  · exact .inr (.inl h)
  · rcases hn with hn | ⟨g, hg, hg2⟩
    · exact .inr (.inr (hn.symm.trans h))
    · rw [hg] at h; injection h with h; omega
/-- What the search reads: its variables that stay, the store, the nodes, the vector. -/
structure LkEnv (kind : Int) (xs : List Int) (k : Nat) (l : List It) (S : List Nd) (nb q fb vb rc lk lb kb ab kk top : Nat) (A An B : Option Addr) (c cn d : Nat) (w : World) : Prop where
  pos : LkPos nb q fb vb rc lk lb kb ab kk top
  sz : top ≤ w.heap.size
  cn_ : w.cell? ⟨nb, 0, none⟩ = some (.slice An S.length cn)
  ck : w.cell? ⟨kb, 0, none⟩ = some (.int .i64 kind)
  cl : w.cell? ⟨lb, 0, none⟩ = some (.slice A l.length c)
  ca : w.cell? ⟨ab, 0, none⟩ = some (.slice B xs.length d)
  cK : w.cell? ⟨kk, 0, none⟩ = some (.int .i64 k)
  cf : w.cell? ⟨lk, 0, none⟩ = some (.func (.func 63) #[] #[.pointer (some ⟨nb, 0, none⟩), .pointer (some ⟨vb, 0, none⟩), .pointer (some ⟨kb, 0, none⟩), .pointer (some ⟨lb, 0, none⟩), .pointer (some ⟨ab, 0, none⟩), .pointer (some ⟨fb, 0, none⟩), .pointer (some ⟨kk, 0, none⟩), .pointer (some ⟨lk, 0, none⟩), .pointer (some ⟨rc, 0, none⟩)])
  cr : w.cell? ⟨rc, 0, none⟩ = some (.func (.func 62) #[] #[.pointer (some ⟨fb, 0, none⟩), .pointer (some ⟨kk, 0, none⟩)])
  rs : RS w nb A l
  rk : RK nodeP w nb An S
  ri : RI w nb B xs
theorem LkEnv.fr {kind : Int} {xs : List Int} {k : Nat} {l : List It} {S : List Nd} {nb q fb vb rc lk lb kb ab kk top : Nat} {A An B : Option Addr} {c cn d : Nat} {s : Nat} {v : Value} {w w' : World} (h : LkEnv kind xs k l S nb q fb vb rc lk lb kb ab kk top A An B c cn d w) (hf : FrB s (XL fb vb v) w w') (hs : top ≤ s) (hv : ∀ g, v.ownBlock = some g → g = q ∨ top ≤ g) : LkEnv kind xs k l S nb q fb vb rc lk lb kb ab kk top A An B c cn d w' := by
  obtain ⟨h1, h2, h3, h4, h5, h6, h7, h8, h9, h10⟩ := h.pos
  have hb : Below nb w w' := hf.below (by omega) fun k hk hx => by
    rcases hx with hx | hx | hx
    · omega
    · omega
    · have := hv k hx; omega
  have cell : ∀ z, (z < nb ∨ z = nb ∨ (vb < z ∧ z < top)) → w'.cell? ⟨z, 0, none⟩ = w.cell? ⟨z, 0, none⟩ := fun z hz => hf.cell (p := ⟨z, 0, none⟩) (by show z < s; omega) (fun hx => by
    rcases hx with hx | hx | hx
    · have hx' : z = fb := hx; omega
    · have hx' : z = vb := hx; omega
    · have := hv z hx; omega)
  exact ⟨h.pos, Nat.le_trans h.sz hf.size, (cell _ (by omega)).trans h.cn_, (cell _ (by omega)).trans h.ck, (cell _ (by omega)).trans h.cl, (cell _ (by omega)).trans h.ca, (cell _ (by omega)).trans h.cK, (cell _ (by omega)).trans h.cf, (cell _ (by omega)).trans h.cr,
    h.rs.keep hb, h.rk.below hb, h.ri.below hb⟩
def Looked (kind : Int) (xs : List Int) (k : Nat) (l : List It) (S : List Nd) (nb q fb vb rc lk lb kb ab kk top : Nat) (A An B : Option Addr) (c cn d : Nat) (t : Tr) : Prop := ∀ (i : Int) (b e : Nat) (F : List Ht) (m : Int) (v : Value) (w : World),
  Lay S t i b e → (∀ y ∈ t.items, y ∈ l) → KeysD t.items → SOk F t.items → LkEnv kind xs k l S nb q fb vb rc lk lb kb ab kk top A An B c cn d w →
  Blk w vb 3 #[.int .i64 m] → Blk w fb 50 #[v] → OwnK hitP w q w.heap.size v F → (∀ g, v.ownBlock = some g → g = q ∨ top ≤ g) → VOk k (F, m) 0 (1000 - t.size) →
  Calls Try.prog 63 #[.int .i64 i, .pointer (some ⟨nb, 0, none⟩), .pointer (some ⟨vb, 0, none⟩), .pointer (some ⟨kb, 0, none⟩), .pointer (some ⟨lb, 0, none⟩), .pointer (some ⟨ab, 0, none⟩), .pointer (some ⟨fb, 0, none⟩), .pointer (some ⟨kk, 0, none⟩), .pointer (some ⟨lk, 0, none⟩), .pointer (some ⟨rc, 0, none⟩)] w fun e w' => e = .returned (.tuple #[]) ∧ ∃ v',
    Blk w' vb 3 #[.int .i64 (visT kind xs k t (F, m)).2] ∧ Blk w' fb 50 #[v'] ∧ OwnK hitP w' q w'.heap.size v' (visT kind xs k t (F, m)).1 ∧ FrB w.heap.size (XL fb vb v) w w' ∧ NewB w.heap.size v v'

set_option maxRecDepth 20000 in
set_option maxHeartbeats 3200000 in
theorem look_node {kind : Int} {xs : List Int} {k : Nat} {l : List It} {S : List Nd} {nb q fb vb rc lk lb kb ab kk top : Nat} {A An B : Option Addr} {c cn d : Nat} (hvl : ∀ y ∈ l, vecB y.pt 4 = true) (hvx : vecB xs 4 = true) (hkd : KeysD l) (hk : 0 < k) (hk16 : k ≤ 16) (x : It) (r : Int) (tn tf : Tr)
    (ihn : Looked kind xs k l S nb q fb vb rc lk lb kb ab kk top A An B c cn d tn) (ihf : Looked kind xs k l S nb q fb vb rc lk lb kb ab kk top A An B c cn d tf) : Looked kind xs k l S nb q fb vb rc lk lb kb ab kk top A An B c cn d (.node x r tn tf) := by
  intro i b e F m v w hlay hit hkt hsok henv hBv hBf ho hvq hok
  obtain ⟨near, far, mm, rfl, hS, hln, hlf⟩ : ∃ near far mm, i = (b : Int) ∧ S[b]? = some ⟨x.key, r, near, far⟩ ∧ Lay S tn near (b + 1) mm ∧ Lay S tf far mm e := by
    cases hlay with
    | node _ _ near far _ _ _ mm _ h1 h2 h3 => exact ⟨near, far, mm, rfl, h1, h2, h3⟩
  obtain ⟨q1, q2, q3, q4, q5, q6, q7, q8, q9, q10⟩ := henv.pos
  have htop := henv.sz
  have hsz : (((Tr.node x r tn tf).size : Nat) : Int) = tn.size + tf.size + 1 := by simp [Tr.size]
  have hlo : 0 ≤ m := hok.lo
  have hhi : m ≤ 1000 - ((Tr.node x r tn tf).size : Int) := hok.hi
  have hFl : F.length ≤ k := hok.len
  have hdb : DB F := hok.db
  have hxl : x ∈ l := hit x (by simp [Tr.items])
  have hitn : ∀ y ∈ tn.items, y ∈ l := fun y hy => hit y (by simp [Tr.items, hy])
  have hitf : ∀ y ∈ tf.items, y ∈ l := fun y hy => hit y (by simp [Tr.items, hy])
  rw [Tr.items] at hkt hsok
  have hktn : KeysD (tn.items ++ tf.items) := (List.pairwise_cons.1 hkt).2
  have hktf : KeysD (tf.items ++ tn.items) := hktn.perm List.perm_append_comm
  have kn : KeysD tn.items := hktn.sub (List.sublist_append_left _ _)
  have kf : KeysD tf.items := hktf.sub (List.sublist_append_left _ _)
  have hvis := vis_node kind xs k x r tn tf F m
  obtain ⟨dd, hdd⟩ : ∃ dd, dd = distL kind x.pt xs 4 := ⟨_, rfl⟩
  have hbd : 0 ≤ dd ∧ dd ≤ 160000 := by rw [hdd]; exact distL_bd kind (hvl x hxl) hvx
  have hho : hitOf kind xs x = ⟨x.key, dd⟩ := by rw [hdd]; rfl
  obtain ⟨hsok1, hsrt⟩ := SOk.head (kind := kind) (c := xs) (k := k) hsok hkt
  rw [hho] at hsok1 hsrt
  rw [← hdd, hho] at hvis
  obtain ⟨F1, hF1⟩ : ∃ F1, F1 = addH F ⟨x.key, dd⟩ k := ⟨_, rfl⟩
  rw [← hF1] at hvis hsok1
  have hok1 : VOk k (F1, m + 1) 0 (1000 - (tn.size + tf.size : Int)) := ⟨by rw [hF1]; exact addH_db hdb hbd, by rw [hF1]; exact addH_len _ _ _, (by show 0 ≤ m + 1; omega), (by show m + 1 ≤ _; omega)⟩
  have hokn := vis_ok (kind := kind) (c := xs) hvx tn (F1, m + 1) 0 (1000 - (tn.size + tf.size : Int)) (fun y hy => hvl y (hitn y hy)) hok1
  have hokf := vis_ok (kind := kind) (c := xs) hvx tf (F1, m + 1) 0 (1000 - (tn.size + tf.size : Int)) (fun y hy => hvl y (hitf y hy)) hok1
  have sokn : SOk F1 tn.items := hsok1.sub fun y hy => List.mem_append.2 (.inl hy)
  have sokf : SOk F1 tf.items := hsok1.sub fun y hy => List.mem_append.2 (.inr hy)
  have soknf : SOk (visT kind xs k tn (F1, m + 1)).1 tf.items := vis_sok tn (F1, m + 1) tf.items hktn hsok1
  have sokfn : SOk (visT kind xs k tf (F1, m + 1)).1 tn.items := vis_sok tf (F1, m + 1) tn.items hktf (hsok1.sub fun y hy => List.mem_append.2 ((List.mem_append.1 hy).symm))
  obtain ⟨sn, hsn⟩ : ∃ s, s = visT kind xs k tn (F1, m + 1) := ⟨_, rfl⟩
  obtain ⟨sf, hsf⟩ : ∃ s, s = visT kind xs k tf (F1, m + 1) := ⟨_, rfl⟩
  rw [← hsn] at hokn hvis soknf
  rw [← hsf] at hokf hvis sokfn
  have HV := Lib.hid hvis
  have HSN := Lib.hid hsn
  have HSF := Lib.hid hsf
  have HF1 := Lib.hid hF1
  clear hvis hsn hsf hF1 hsok hsok1 hkt
  obtain ⟨n, hn⟩ := List.getElem?_of_mem hxl
  have hnl := (List.getElem?_eq_some_iff.1 hn).1
  have hSl := henv.rk.len
  have hbl := (List.getElem?_eq_some_iff.1 hS).1
  have hvb := hBv.lt
  have hfbl := hBf.lt
  have ov : ∀ g, v.ownBlock = some g → q ≤ g ∧ g < w.heap.size := ho.lt
  -- the counter
  obtain ⟨w1, hw1⟩ : ∃ w1, w1 = w.setCell ⟨vb, 0, none⟩ (.int .i64 (m + 1)) := ⟨_, rfl⟩
  have F01 : FrB w.heap.size (XL fb vb v) w w1 := by rw [hw1]; exact FrB.set_ _ _ _ _ (.inr (.inl rfl))
  have Bv1 : Blk w1 vb 3 #[.int .i64 (m + 1)] := by rw [hw1]; exact hBv.set_ 0 _
  have Bf1 : Blk w1 fb 50 #[v] := by rw [hw1]; exact hBf.far (by show fb ≠ vb; omega) _
  have o1 : OwnK hitP w1 q w1.heap.size v F := by
    have := ho.still (w' := w1) (fun g hg => by rw [hw1]; exact Below.heap_setCell w ⟨vb, 0, none⟩ _ g (by show g ≠ vb; have := hvq g hg; omega))
    exact this.up
  have e1 : w1.heap.size = w.heap.size := by rw [hw1]; simp [World.setCell]
  have env1 := henv.fr F01 htop hvq
  obtain ⟨ad, nd, rfl, had, c_0, c_1, c_2, c_3, _, hnd⟩ := env1.rk.nd hbl
  have hnd' := hnd.out
  rw [hS] at hnd'
  injection hnd' with hnd'
  subst hnd'
  simp only at c_0 c_1 c_2 c_3
  have s1 := henv.cn_
  have s2 := env1.cn_
  have z6 : w.cell? ⟨vb, 0, none⟩ = some (.int .i64 m) := hBv.cell 0
  have p6 := hBv.frozen 0
  -- the node's box
  obtain ⟨w2, hw2⟩ : ∃ w2, w2 = w1.alloc (.cells #[.int .i64 x.key, .int .i64 r, .int .i64 near, .int .i64 far] 30) := ⟨_, rfl⟩
  have g12 : Grow w1 w2 := by rw [hw2]; exact (Below.refl _ _).alloc (Nat.le_refl _) _
  have N2 : Blk w2 w1.heap.size 30 #[.int .i64 x.key, .int .i64 r, .int .i64 near, .int .i64 far] := by rw [hw2]; exact Blk.new _ _ _
  have e2 : w2.heap.size = w1.heap.size + 1 := by rw [hw2]; simp
  have E1 := Lib.hid e1
  have E2 := Lib.hid e2
  have env2 := env1.fr (v := v) (FrB.of_below g12 (Nat.le_refl _)) (by omega) hvq
  obtain ⟨ld, Ax, cx, x', rfl, hld, _, l1, _, _, _, rx, _, _, hx'⟩ := env2.rs.at_ hnl
  have hx'' := hx'.out
  rw [hn] at hx''
  injection hx'' with hx''
  subst hx''
  have hnb2 : nb < w2.heap.size := by omega
  have N2l := N2.lt
  have cel : ∀ (z : Nat) (u : Value), z < w2.heap.size → w2.cell? ⟨z, 0, none⟩ = some u → ∀ s : From w2, s.w.cell? ⟨z, 0, none⟩ = some u := fun z u hz hu s => (s.cell (p := ⟨z, 0, none⟩) hz).trans hu
  have f1 := cel lb _ (by omega) env2.cl
  have f2 := cel kb _ (by omega) env2.ck
  have f3 := cel ab _ (by omega) env2.ca
  have fb_ : ∀ s : From w2, s.w.cell? ⟨w1.heap.size, 0, none⟩ = some (.int .i64 x.key) := fun s => (s.cell (p := ⟨w1.heap.size, 0, none⟩) N2l).trans (N2.cell 0)
  have fl : ∀ s : From w2, s.w.cell? ⟨(ld.add (n * 3)).block, (ld.add (n * 3)).off + 1, none⟩ = some (.slice Ax x.pt.length cx) := fun s => (s.cell (p := ⟨(ld.add (n * 3)).block, (ld.add (n * 3)).off + 1, none⟩) (by show (ld.add (n * 3)).block < _; rw [block_of_add]; omega)).trans l1
  have rs2 : RS w2 w2.heap.size (some ld) l := env2.rs.more (by omega)
  have ri2 : RI w2 w2.heap.size B xs := env2.ri.more (by omega)
  have rx2 : RI w2 w2.heap.size Ax x.pt := rx.more (by omega)
  have KC := fun s : From w2 => From.call (impl_indexOf_fix (some ld) c l x n s.w (rs2.grow s.g) hkd hn)
  have DC := fun s : From w2 => From.call_drew (by have := impl_distance kind Ax B x.pt xs cx d s.w (rx2.grow s.g) (ri2.grow s.g) (hvl x hxl) hvx; rw [← hdd] at this; exact this)
  have HW1 := Lib.hid hw1
  have HW2 := Lib.hid hw2
  have HDD := Lib.hid hdd
  have HN := Lib.hid hn
  have hi0 : ¬ ((b : Int) < 0) := by omega
  have i1 : (n : Int) < (l.length : Int) := by omega
  have i2 : (b : Int) < (S.length : Int) := by omega
  have i3 : (0 : Int) ≤ (n : Int) := by omega
  have i4 : (0 : Int) ≤ (b : Int) := by omega
  have i5 : ¬ ((S.length : Int) ≤ (b : Int)) := by omega
  have i6 : ¬ (S.length ≤ b) := by omega
  have hFx : Fits x.key := by
    have := henv.rk.fit _ (List.mem_of_getElem? hS)
    exact this _ (by simp [nodeP])
  clear hw1 hw2 hdd hn hlay hS hok hit hnd hx' hho e1 e2 cel l1 env1 rx
  go_enter Try.func63, Try.ntmps63
  go_upto_region 2 with fail
  rw [← HW1.out]
  go_upto_region 3 with fail
  rw [← HW2.out]
  refine wp_region_from (by kernel_rfl) (by kernel_rfl) ?_
  repeat (go_big_quiet_step (first | exact KC _ | exact DC _))
  refine wpQuiet_nil ?_
  intro w3 g3
  have e1 : w1.heap.size ≤ w.heap.size := Nat.le_of_eq E1.out
  have e1' : w.heap.size ≤ w1.heap.size := Nat.le_of_eq E1.out.symm
  have e2 : w2.heap.size ≤ w1.heap.size + 1 := Nat.le_of_eq E2.out
  have e2' : w1.heap.size + 1 ≤ w2.heap.size := Nat.le_of_eq E2.out.symm
  have e3 := g3.size
  have env3 := env2.fr (v := v) (FrB.of_below g3 (Nat.le_refl _)) (by omega) hvq
  have Bf3 := (Bf1.below g12 Bf1.lt).below g3 (by omega)
  have Bv3 := (Bv1.below g12 Bv1.lt).below g3 (by omega)
  have N3 := N2.below g3 N2l
  have o3 := ((o1.grow g12).grow g3).up
  have F03 : FrB w.heap.size (XL fb vb v) w w3 := F01.trans (FrB.of_below (g12.trans g3) (by omega))
  obtain ⟨A5, c5, rfl, hc5, hm5, r5⟩ := o3.open_
  have hE3 : w3.heap.size ≥ w1.heap.size + 1 := by omega
  have hqw : q ≤ w3.heap.size := by omega
  have hlen : F.length ≤ 1999999 := by omega
  have hfit : ∀ z ∈ hitP.f ⟨x.key, dd⟩, Fits z := fun z hz => by
    simp [hitP] at hz
    rcases hz with rfl | rfl
    · exact hFx
    · exact ⟨by omega, by omega⟩
  have y6 : w3.cell? ⟨fb, 0, none⟩ = some (.slice A5 F.length c5) := Bf3.cell 0
  have y7 := env3.cK
  have y0 : w3.cell? ⟨w1.heap.size, 0, none⟩ = some (.int .i64 x.key) := N3.cell 0
  have fin : ∀ (w5 w6 : World) (g5 c5' : Nat) (u : Value), w3.grownBy w5 (Value.slice A5 F.length c5).ownBlock → ((Value.slice (some ⟨g5, 0, none⟩) (F.length + 1) c5').ownBlock = (Value.slice A5 F.length c5).ownBlock ∨ ∃ g, (Value.slice (some ⟨g5, 0, none⟩) (F.length + 1) c5').ownBlock = some g ∧ w3.heap.size ≤ g) →
      Turn g5 (g5 + 1) w5 w6 → OwnK hitP w6 w5.heap.size w6.heap.size u F1 → Blk w6 fb 50 #[.slice A5 F.length c5] ∧
      Blk (w6.setCell ⟨fb, 0, none⟩ u) vb 3 #[.int .i64 (m + 1)] ∧ Blk (w6.setCell ⟨fb, 0, none⟩ u) fb 50 #[u] ∧ Blk (w6.setCell ⟨fb, 0, none⟩ u) w1.heap.size 30 #[.int .i64 x.key, .int .i64 r, .int .i64 near, .int .i64 far] ∧
      OwnK hitP (w6.setCell ⟨fb, 0, none⟩ u) q (w6.setCell ⟨fb, 0, none⟩ u).heap.size u F1 ∧ FrB w.heap.size (XL fb vb (.slice A5 F.length c5)) w (w6.setCell ⟨fb, 0, none⟩ u) ∧ (∀ g, u.ownBlock = some g → w1.heap.size < g) := by
    intro w5 w6 g5 c5' u gr nb5 t6 o6
    have hg5 : (Value.slice A5 F.length c5).ownBlock = some g5 ∨ w3.heap.size ≤ g5 := by
      rcases nb5 with h | ⟨g, hg, h2⟩
      · exact .inl h.symm
      · have hg' : some g5 = some g := hg
        injection hg' with hg'
        exact .inr (by omega)
    have far : ∀ z, z < w3.heap.size → (∀ g, (Value.slice A5 F.length c5).ownBlock = some g → g ≠ z) → z ≠ g5 := fun z hz hne e => by
      rcases hg5 with h | h
      · exact hne _ h e.symm
      · omega
    have vne : ∀ z, z ≠ q → z < top → ∀ g, (Value.slice A5 F.length c5).ownBlock = some g → g ≠ z := fun z h1 h2 g hg e => by have := hvq g hg; omega
    have e5 := gr.size
    have blk : ∀ (z : Nat) (tt : TypeId) (cs : Array Value), Blk w3 z tt cs → (∀ g, (Value.slice A5 F.length c5).ownBlock = some g → g ≠ z) → Blk w6 z tt cs := fun z tt cs hz hne => by
      have h5 := hz.grown gr (fun e => hne z e.symm rfl)
      exact h5.turn t6 (by have := far z hz.lt hne; omega)
    have bF := blk fb _ _ Bf3 (vne fb (by omega) (by omega))
    have bV := blk vb _ _ Bv3 (vne vb (by omega) (by omega))
    have bN := blk w1.heap.size _ _ N3 (fun g hg e => by have := (ov g hg).2; omega)
    have uo : ∀ g, u.ownBlock = some g → w5.heap.size ≤ g := fun g hg => (o6.lt g hg).1
    have F56 : FrB w.heap.size (XL fb vb (.slice A5 F.length c5)) w5 w6 := ⟨t6.os, t6.tape, t6.output, t6.size, fun z hz hx => t6.block z (by omega) (by
      have : z ≠ g5 := fun e => by
        rcases hg5 with h | h
        · exact hx (.inr (.inr (by rw [e]; exact h)))
        · omega
      omega)⟩
    refine ⟨bF, bV.far (by show vb ≠ fb; omega) _, bF.set_ 0 _, bN.far (by show w1.heap.size ≠ fb; omega) _, ?_, ((F03.trans (FrB.of_grown gr (by omega) (fun z hz => .inr (.inr hz)))).trans F56).trans (FrB.set_ _ _ _ _ (.inl rfl)), fun g hg => by have := uo g hg; omega⟩
    have h1 := o6.still (w' := w6.setCell ⟨fb, 0, none⟩ u) (fun g hg => Below.heap_setCell w6 ⟨fb, 0, none⟩ _ g (by show g ≠ fb; have := uo g hg; omega))
    exact (h1.lower (by omega) (Nat.le_refl _)).up
  have gal : Grow w3 (w3.alloc (.cells #[.int .i64 x.key, .int .i64 dd] 78)) := (Below.refl _ _).alloc (Nat.le_refl _) _
  have y6a : (w3.alloc (.cells #[.int .i64 x.key, .int .i64 dd] 78)).cell? ⟨fb, 0, none⟩ = some (.slice A5 F.length c5) := (gal.cell (p := ⟨fb, 0, none⟩) Bf3.lt).trans y6
  have y7a : (w3.alloc (.cells #[.int .i64 x.key, .int .i64 dd] 78)).cell? ⟨kk, 0, none⟩ = some (.int .i64 k) := (gal.cell (p := ⟨kk, 0, none⟩) (by show kk < _; omega)).trans y7
  have finK : ∀ w5 : World, w3.grownBy w5 (Value.slice A5 F.length c5).ownBlock → w5.cell? ⟨kk, 0, none⟩ = some (.int .i64 k) := fun w5 gr =>
    (World.cell?_of_block (gr.block kk (by omega) (fun e => by have := hvq kk e.symm; omega))).trans y7
  clear c_0 c_1 c_2 c_3 s1 s2 z6 p6 f1 f2 f3 fb_ fl KC DC rs2 ri2 rx2 Bf1 Bv1 o1 F01 F03 ho hBv hBf env2
  go_upto_region 4 with fail
  go_cut [12] (fun v12 wc => v12 = .int .i64 dd ∧ ∃ A6 c6, Blk wc vb 3 #[.int .i64 (m + 1)] ∧ Blk wc fb 50 #[.slice A6 F1.length c6] ∧ Blk wc w1.heap.size 30 #[.int .i64 x.key, .int .i64 r, .int .i64 near, .int .i64 far] ∧
    OwnK hitP wc q wc.heap.size (.slice A6 F1.length c6) F1 ∧ FrB w.heap.size (XL fb vb (.slice A5 F.length c5)) w wc ∧ (∀ g, (Value.slice A6 F1.length c6).ownBlock = some g → w1.heap.size < g))
  case first =>
    go_region_law (first
      | (go_simp; go_at_call 65; refine (impl_firstHits (F ++ [(⟨x.key, dd⟩ : Ht)]) (insL htB Ht.zero ⟨x.key, dd⟩ F) _ k g5 (g5 + 1) _ o5.tight insL_permr hsrt (by simp; omega) (by omega)).mono ?_; rintro e w6 ⟨u, rfl, o6, t6⟩; have o6' : OwnK hitP w6 _ w6.heap.size u F1 := (by rw [HF1.out]; exact o6); obtain ⟨A6, c6, rfl, _, _, _⟩ := o6'.open_; have f6 := fin _ _ _ _ _ gr5 nb5 t6 o6'; have x6 : w6.cell? ⟨fb, 0, none⟩ = some (.slice A5 F.length c5) := f6.1.cell 0; have p6 := f6.1.frozen 0)
      | (refine step_pushK (p := hitP) (wr := w3) (y := ⟨x.key, dd⟩) hit_in (by rfl) (.tmp 38) (.tmp 43) (by rfl) (by rfl) (by rfl) rfl rfl rfl rfl o3 hqw hlen hfit ?_; intro v5 w5 o5 b5 gr5 nb5; obtain ⟨g5, c5', rfl, hg5, hh5, hc5'⟩ := own_some o5; have y7' := finK _ gr5))
    all_goals
      go_wp2_with fail
      go_meet
      exact ⟨rfl, A6, c6, f6.2⟩
  case rest =>
  obtain ⟨rfl, A6, c6, Bv5, Bf5, N5, o5, F05, hbx⟩ := hcut
  have e5 := F05.size
  have envc := henv.fr F05 htop hvq
  have hvq5 : ∀ g, (Value.slice A6 F1.length c6).ownBlock = some g → g = q ∨ top ≤ g := fun g hg => .inr (by have := hbx g hg; omega)
  have NB5 : NewB w.heap.size (.slice A5 F.length c5) (.slice A6 F1.length c6) := by
    have hF1p : 0 < F1.length := by rw [HF1.out, addH, List.length_take, insL_len]; omega
    obtain ⟨g, rfl, _⟩ := o5.form hF1p
    exact .inr ⟨g, rfl, by have := hbx g rfl; omega⟩
  have x1 : wc.cell? ⟨w1.heap.size, 1, none⟩ = some (.int .i64 r) := N5.cell 1
  have x2 : wc.cell? ⟨w1.heap.size, 2, none⟩ = some (.int .i64 near) := N5.cell 2
  have x3 : wc.cell? ⟨w1.heap.size, 3, none⟩ = some (.int .i64 far) := N5.cell 3
  have xf := envc.cf
  have hszn : (0 : Int) ≤ tn.size := by omega
  have hszf : (0 : Int) ≤ tf.size := by omega
  have hok1n : VOk k (F1, m + 1) 0 (1000 - (tn.size : Int)) := ⟨hok1.db, hok1.len, hok1.lo, by have := hok1.hi; simp only at this ⊢; omega⟩
  have hok1f : VOk k (F1, m + 1) 0 (1000 - (tf.size : Int)) := ⟨hok1.db, hok1.len, hok1.lo, by have := hok1.hi; simp only at this ⊢; omega⟩
  have hoknf : VOk k (sn.1, sn.2) 0 (1000 - (tf.size : Int)) := ⟨hokn.db, hokn.len, hokn.lo, by have := hokn.hi; simp only at this ⊢; omega⟩
  have hokfn : VOk k (sf.1, sf.2) 0 (1000 - (tn.size : Int)) := ⟨hokf.db, hokf.len, hokf.lo, by have := hokf.hi; simp only at this ⊢; omega⟩
  clear y6 y7 y0 y6a y7a gal finK fin Bf3 Bv3 N3 o3 hok1 env3 r5 hfit hsrt
  have rb := reach_bd (k := k) hokn.db
  have rb2 := reach_bd (k := k) hokf.db
  obtain ⟨rn, hrn⟩ : ∃ q, q = reachV sn.1 k := ⟨_, rfl⟩
  obtain ⟨rf, hrf⟩ : ∃ q, q = reachV sf.1 k := ⟨_, rfl⟩
  rw [← hrn] at rb
  rw [← hrf] at rb2
  have hv := HV.out
  rw [← hrn, ← hrf] at hv
  by_cases hdr : dd ≤ r
  · rw [if_pos hdr] at hv
    have IHN := ihn near (b + 1) mm F1 (m + 1) _ wc hln hitn kn sokn envc Bv5 Bf5 o5 hvq5 hok1n
    rw [← HSN.out] at IHN
    have HV2 := Lib.hid hv
    clear hv HV
    go_wp2_with fail
    refine IHN.mono ?_; rintro e w6 ⟨rfl, v6, Bv6, Bf6, o6, F56, NB6⟩
    have e6 := F56.size
    have N6 := F56.blk N5 N5.lt (fun hx => by
      rcases hx with hx | hx | hx
      · have hx' : w1.heap.size = fb := hx; omega
      · have hx' : w1.heap.size = vb := hx; omega
      · have := hbx _ hx; omega)
    have F06 := F05.trans (F56.less (s := w.heap.size) e5 (fun z hz hx => xl_back NB5 hz hx))
    have NB06 : NewB w.heap.size (.slice A5 F.length c5) v6 := NB5.trans NB6 e5
    have env6 := henv.fr F06 htop hvq
    have hvq6 : ∀ g, v6.ownBlock = some g → g = q ∨ top ≤ g := fun g hg => by
      rcases NB06 with h | ⟨g', hg', h2⟩
      · exact hvq g (h.symm.trans hg)
      · rw [hg'] at hg; injection hg with hg; exact .inr (by omega)
    have f1 : ∀ s : From w6, s.w.cell? ⟨w1.heap.size, 1, none⟩ = some (.int .i64 r) := fun s => (s.cell (p := ⟨w1.heap.size, 1, none⟩) N6.lt).trans (N6.cell 1)
    have f2 : ∀ s : From w6, s.w.cell? ⟨rc, 0, none⟩ = some (.func (.func 62) #[] #[.pointer (some ⟨fb, 0, none⟩), .pointer (some ⟨kk, 0, none⟩)]) := fun s => (s.cell (p := ⟨rc, 0, none⟩) (by show rc < _; have := env6.sz; omega)).trans env6.cr
    have RC := fun s : From w6 => From.call (by have := impl_reach s.w ((s.cell (p := ⟨fb, 0, none⟩) Bf6.lt).trans (Bf6.cell 0)) ((s.cell (p := ⟨kk, 0, none⟩) (by show kk < _; have := env6.sz; omega)).trans env6.cK) (o6.grow s.g) hk (by omega) (by have := hoknf.len; simp only at this; omega); rw [← hrn] at this; exact this)
    have HRN := Lib.hid hrn
    have HRF := Lib.hid hrf
    clear x1 x2 x3 hrn hrf IHN o5 Bv5 Bf5 N5 xf
    have i5 : IntKind.i64.wrap (dd + rn) = dd + rn := by rw [IntKind.wrap_i64]; omega
    by_cases hge : r ≤ dd + rn
    · have hge' : decide (r ≤ dd + rn) = true := by simpa using hge
      go_wp2_with fail
      refine wp_region_from (by kernel_rfl) (by kernel_rfl) ?_
      repeat (go_big_quiet_step (exact RC _))
      refine wpQuiet_nil ?_
      intro w7 g7
      have N7 := N6.below g7 N6.lt
      have x2 : w7.cell? ⟨w1.heap.size, 3, none⟩ = some (.int .i64 far) := N7.cell 3
      have e7 := g7.size
      have F07 := F06.trans (FrB.of_below (X := XL fb vb (.slice A5 F.length c5)) g7 (show w.heap.size ≤ w6.heap.size by omega))
      have env7 := henv.fr F07 htop hvq
      have xf := env7.cf
      have IHF := ihf far mm e sn.1 sn.2 _ w7 hlf hitf kf soknf env7 (Bv6.below g7 Bv6.lt) (Bf6.below g7 Bf6.lt) (o6.grow g7).up hvq6 hoknf
      have hv := HV2.out
      rw [if_pos hge] at hv
      rw [show visT kind xs k tf (sn.1, sn.2) = visT kind xs k (.node x r tn tf) (F, m) from hv.symm] at IHF
      have HV3 := Lib.hid hv
      clear hv f1 f2 RC
      go_wp2_with fail
      refine IHF.mono ?_; rintro e w8 ⟨rfl, v8, Bv8, Bf8, o8, F78, NB8⟩
      go_wp2_with fail
      first | go_end0 | ((try simp only [Exit.inBlock, Exit.then]); refine bodyPost_ret (results_none rfl _ _ _) rfl ?_)
      exact ⟨rfl, v8, Bv8, Bf8, o8, F07.trans (F78.less (by omega) (fun z hz hx => xl_back NB06 hz hx)), NB06.trans NB8 (by omega)⟩
    · have hge' : decide (r ≤ dd + rn) = false := by simpa using hge
      go_wp2_with fail
      refine wp_region_from (by kernel_rfl) (by kernel_rfl) ?_
      repeat (go_big_quiet_step (exact RC _))
      refine wpQuiet_nil ?_
      intro w7 g7
      have hv := HV2.out
      rw [if_neg (by omega)] at hv
      have HV3 := Lib.hid hv
      clear hv f1 f2 RC
      go_wp2_with fail
      first | go_end0 | ((try simp only [Exit.inBlock, Exit.then]); refine bodyPost_ret (results_none rfl _ _ _) rfl ?_)
      rw [HV3.out]
      exact ⟨rfl, v6, Bv6.below g7 Bv6.lt, Bf6.below g7 Bf6.lt, (o6.grow g7).up, F06.trans (FrB.of_below (X := XL fb vb (.slice A5 F.length c5)) g7 (show w.heap.size ≤ w6.heap.size by omega)), NB06⟩
  · rw [if_neg hdr] at hv
    have IHN := ihf far mm e F1 (m + 1) _ wc hlf hitf kf sokf envc Bv5 Bf5 o5 hvq5 hok1f
    rw [← HSF.out] at IHN
    have HV2 := Lib.hid hv
    clear hv HV
    go_wp2_with fail
    refine IHN.mono ?_; rintro e w6 ⟨rfl, v6, Bv6, Bf6, o6, F56, NB6⟩
    have e6 := F56.size
    have N6 := F56.blk N5 N5.lt (fun hx => by
      rcases hx with hx | hx | hx
      · have hx' : w1.heap.size = fb := hx; omega
      · have hx' : w1.heap.size = vb := hx; omega
      · have := hbx _ hx; omega)
    have F06 := F05.trans (F56.less (s := w.heap.size) e5 (fun z hz hx => xl_back NB5 hz hx))
    have NB06 : NewB w.heap.size (.slice A5 F.length c5) v6 := NB5.trans NB6 e5
    have env6 := henv.fr F06 htop hvq
    have hvq6 : ∀ g, v6.ownBlock = some g → g = q ∨ top ≤ g := fun g hg => by
      rcases NB06 with h | ⟨g', hg', h2⟩
      · exact hvq g (h.symm.trans hg)
      · rw [hg'] at hg; injection hg with hg; exact .inr (by omega)
    have f1 : ∀ s : From w6, s.w.cell? ⟨w1.heap.size, 1, none⟩ = some (.int .i64 r) := fun s => (s.cell (p := ⟨w1.heap.size, 1, none⟩) N6.lt).trans (N6.cell 1)
    have f2 : ∀ s : From w6, s.w.cell? ⟨rc, 0, none⟩ = some (.func (.func 62) #[] #[.pointer (some ⟨fb, 0, none⟩), .pointer (some ⟨kk, 0, none⟩)]) := fun s => (s.cell (p := ⟨rc, 0, none⟩) (by show rc < _; have := env6.sz; omega)).trans env6.cr
    have RC := fun s : From w6 => From.call (by have := impl_reach s.w ((s.cell (p := ⟨fb, 0, none⟩) Bf6.lt).trans (Bf6.cell 0)) ((s.cell (p := ⟨kk, 0, none⟩) (by show kk < _; have := env6.sz; omega)).trans env6.cK) (o6.grow s.g) hk (by omega) (by have := hokfn.len; simp only at this; omega); rw [← hrf] at this; exact this)
    have HRN := Lib.hid hrn
    have HRF := Lib.hid hrf
    clear x1 x2 x3 hrn hrf IHN o5 Bv5 Bf5 N5 xf
    have i5 : IntKind.i64.wrap (dd - rf) = dd - rf := by rw [IntKind.wrap_i64]; omega
    by_cases hge : dd - rf ≤ r
    · have hge' : decide (dd - rf ≤ r) = true := by simpa using hge
      go_wp2_with fail
      refine wp_region_from (by kernel_rfl) (by kernel_rfl) ?_
      repeat (go_big_quiet_step (exact RC _))
      refine wpQuiet_nil ?_
      intro w7 g7
      have N7 := N6.below g7 N6.lt
      have x2 : w7.cell? ⟨w1.heap.size, 2, none⟩ = some (.int .i64 near) := N7.cell 2
      have e7 := g7.size
      have F07 := F06.trans (FrB.of_below (X := XL fb vb (.slice A5 F.length c5)) g7 (show w.heap.size ≤ w6.heap.size by omega))
      have env7 := henv.fr F07 htop hvq
      have xf := env7.cf
      have IHF := ihn near (b + 1) mm sf.1 sf.2 _ w7 hln hitn kn sokfn env7 (Bv6.below g7 Bv6.lt) (Bf6.below g7 Bf6.lt) (o6.grow g7).up hvq6 hokfn
      have hv := HV2.out
      rw [if_pos hge] at hv
      rw [show visT kind xs k tn (sf.1, sf.2) = visT kind xs k (.node x r tn tf) (F, m) from hv.symm] at IHF
      have HV3 := Lib.hid hv
      clear hv f1 f2 RC
      go_wp2_with fail
      refine IHF.mono ?_; rintro e w8 ⟨rfl, v8, Bv8, Bf8, o8, F78, NB8⟩
      go_wp2_with fail
      first | go_end0 | ((try simp only [Exit.inBlock, Exit.then]); refine bodyPost_ret (results_none rfl _ _ _) rfl ?_)
      exact ⟨rfl, v8, Bv8, Bf8, o8, F07.trans (F78.less (by omega) (fun z hz hx => xl_back NB06 hz hx)), NB06.trans NB8 (by omega)⟩
    · have hge' : decide (dd - rf ≤ r) = false := by simpa using hge
      go_wp2_with fail
      refine wp_region_from (by kernel_rfl) (by kernel_rfl) ?_
      repeat (go_big_quiet_step (exact RC _))
      refine wpQuiet_nil ?_
      intro w7 g7
      have hv := HV2.out
      rw [if_neg (by omega)] at hv
      have HV3 := Lib.hid hv
      clear hv f1 f2 RC
      go_wp2_with fail
      first | go_end0 | ((try simp only [Exit.inBlock, Exit.then]); refine bodyPost_ret (results_none rfl _ _ _) rfl ?_)
      rw [HV3.out]
      exact ⟨rfl, v6, Bv6.below g7 Bv6.lt, Bf6.below g7 Bf6.lt, (o6.grow g7).up, F06.trans (FrB.of_below (X := XL fb vb (.slice A5 F.length c5)) g7 (show w.heap.size ≤ w6.heap.size by omega)), NB06⟩
theorem impl_look {kind : Int} {xs : List Int} {k : Nat} {l : List It} {S : List Nd} {nb q fb vb rc lk lb kb ab kk top : Nat} {A An B : Option Addr} {c cn d : Nat} (hvl : ∀ y ∈ l, vecB y.pt 4 = true) (hvx : vecB xs 4 = true) (hkd : KeysD l) (hk : 0 < k) (hk16 : k ≤ 16) : ∀ t : Tr, Looked kind xs k l S nb q fb vb rc lk lb kb ab kk top A An B c cn d t := by
  intro t
  induction t with
  | nil =>
    intro i b e F m v w hlay hit hkt hsok henv hBv hBf ho hvq hok
    cases hlay
    go_enter Try.func63, Try.ntmps63
    go_wp2_with fail
    first | go_end0 | ((try simp only [Exit.inBlock, Exit.then]); refine bodyPost_ret (results_none rfl _ _ _) rfl ?_)
    exact ⟨rfl, v, hBv, hBf, ho, FrB.refl _ _ _, .inl rfl⟩
  | node x r n f ih1 ih2 => exact look_node hvl hvx hkd hk hk16 x r n f ih1 ih2
end Go.Proofs.Ytebiaodjodlloaa
