/- The reference's Count. -/
import Derived.Test.YtoghnhbjdnjghaaGreatV46
namespace Go.Words
open Go.W Go.Proofs.YtoghnhbjdnjghaaGreat
theorem sat_id {n : Nat} (h : n ≤ 4611686018427387904) : satN n = n := by unfold satN; omega
theorem hits_take {row : List Int} {c : Nat} (hc : c < row.length) (j : Nat) : hits (row.take (c + 1)) j = hits (row.take c) j + (if row[c] = (j : Int) then 1 else 0) := by
  unfold hits
  rw [List.take_succ_eq_append_getElem hc, List.countP_append, List.countP_singleton]
  congr 1
  by_cases h : row[c] = (j : Int)
  · rw [if_pos h, if_pos (decide_eq_true h)]
  · rw [if_neg h, if_neg (by simpa using h)]
theorem accS_nil (tab : List (List Int)) (j : Nat) : accS [] tab j = 0 := rfl
theorem accS_take : ∀ (ns : List Nat) (tab : List (List Int)) (q : Nat) (h1 : q < ns.length) (h2 : q < tab.length) (j : Nat), accS (ns.take (q + 1)) (tab.take (q + 1)) j = accS (ns.take q) (tab.take q) j + ns[q] * hits tab[q] j := by
  intro ns
  induction ns with
  | nil => intro tab q h1; cases h1
  | cons n ns ih =>
    intro tab q h1 h2 j
    cases tab with
    | nil => cases h2
    | cons row tab =>
      cases q with
      | zero =>
        show n * hits row j + accS (ns.take 0) (tab.take 0) j = 0 + n * hits row j
        rw [List.take_zero, accS_nil]; omega
      | succ q =>
        have k1 : q < ns.length := by simpa using h1
        have k2 : q < tab.length := by simpa using h2
        have := ih tab q k1 k2 j
        show n * hits row j + accS (ns.take (q + 1)) (tab.take (q + 1)) j = n * hits row j + accS (ns.take q) (tab.take q) j + ns[q] * hits tab[q] j
        rw [this]; omega
/-- What is added up, a place each. -/
def nxL (m : Nat) (f : Nat → Nat) : List Int := (List.range m).map fun j => ((satN (f j) : Nat) : Int)
theorem nxL_len (m : Nat) (f : Nat → Nat) : (nxL m f).length = m := by unfold nxL; rw [List.length_map, List.length_range]
theorem nxL_get {m : Nat} {f : Nat → Nat} {j : Nat} (h : j < (nxL m f).length) : (nxL m f)[j] = ((satN (f j) : Nat) : Int) := by
  simp only [nxL, List.getElem_map, List.getElem_range]
theorem nxL_congr {m : Nat} {f g : Nat → Nat} (h : ∀ j, j < m → f j = g j) : nxL m f = nxL m g := by
  unfold nxL
  refine List.map_congr_left (fun j hj => ?_)
  rw [h j (List.mem_range.1 hj)]
theorem nxL_set {m : Nat} {f g : Nat → Nat} {t b : Nat} (h1 : g t = f t + b) (h2 : ∀ j, j ≠ t → g j = f j) : (nxL m f).set t ((satN (f t + b) : Nat) : Int) = nxL m g := by
  refine List.ext_getElem (by rw [List.length_set, nxL_len, nxL_len]) (fun j hj1 hj2 => ?_)
  rw [List.getElem_set]
  split
  · rename_i h; subst h; rw [nxL_get, h1]
  · rename_i h; rw [nxL_get, nxL_get, h2 j (fun h3 => h h3.symm)]
theorem nxL_zero (m : Nat) : nxL m (fun _ => 0) = List.replicate m 0 := by
  refine List.ext_getElem (by rw [nxL_len, List.length_replicate]) (fun j hj1 hj2 => ?_)
  rw [nxL_get, List.getElem_replicate]; rfl
theorem rowL_len (l : List Rl) (P : List Str) (k : Nat) (L : List Str) (q : Str) : (rowL l P k L q).length = k := by unfold rowL; rw [List.length_map, List.length_range]
theorem sum_take_le (ns : List Nat) (q : Nat) : (ns.take q).sum ≤ ns.sum := by
  conv => rhs; rw [← List.take_append_drop q ns, List.sum_append]
  omega
theorem sum_take_succ {ns : List Nat} {q : Nat} (h : q < ns.length) : (ns.take (q + 1)).sum = (ns.take q).sum + ns[q] := by
  rw [List.take_succ_eq_append_getElem h, List.sum_append, List.sum_singleton]
theorem le_sum : ∀ (ns : List Nat) (n : Nat), n ∈ ns → n ≤ ns.sum := by
  intro ns
  induction ns with
  | nil => intro n h; cases h
  | cons a ns ih =>
    intro n h
    rw [List.sum_cons]
    rcases List.mem_cons.1 h with rfl | h
    · omega
    · have := ih n h; omega
theorem zs_cellS {w : World} {a : Option Addr} {xs : List Int} (h : Sl w a (zs xs)) {i : Nat} (hi : i < xs.length) : ∃ b o, a = some ⟨b, o, none⟩ ∧ w.cell? ⟨b, o + i, none⟩ = some (.int .i64 xs[i]) :=
  h i _ (by unfold zs; rw [List.getElem?_map, List.getElem?_eq_getElem hi]; rfl)
def cvec (l : List Rl) (k : Nat) (L : List Str) (t : Nat) : List Nat := L.map (cn l k (prefM l) t)
def nowL (l : List Rl) (k : Nat) (L : List Str) (t : Nat) : List Int := nxL L.length fun j => (cvec l k L t).getD j 0
theorem cvec_len (l : List Rl) (k : Nat) (L : List Str) (t : Nat) : (cvec l k L t).length = L.length := List.length_map _
theorem cvec_getD {l : List Rl} {k : Nat} {L : List Str} {t j : Nat} (h : j < (cvec l k L t).length) : (cvec l k L t).getD j 0 = (cvec l k L t)[j] := by
  rw [List.getD_eq_getElem?_getD, List.getElem?_eq_getElem h]; rfl
theorem nowL_len (l : List Rl) (k : Nat) (L : List Str) (t : Nat) : (nowL l k L t).length = L.length := nxL_len _ _
theorem nowL_get {l : List Rl} {k : Nat} {L : List Str} {t j : Nat} (h : j < (nowL l k L t).length) (h2 : j < (cvec l k L t).length) : (nowL l k L t)[j] = ((satN (cvec l k L t)[j] : Nat) : Int) := by
  unfold nowL at h ⊢
  rw [nxL_get, cvec_getD h2]
section
variable {l : List Rl} {k : Nat} {L : List Str} {tab : List (List Int)} (hM : Mch l (prefM l) k L tab)
include hM
theorem cvec_sum (t : Nat) : (cvec l k L t).sum = NN l k t := vec_sum hM t
theorem acc_now (t : Nat) : (nxL L.length fun j => accS (cvec l k L t) tab j) = nowL l k L (t + 1) := by
  unfold nowL
  refine nxL_congr (fun j hj => ?_)
  show accS (L.map (cn l k (prefM l) t)) tab j = _
  rw [cn_succ hM t hj, cvec_getD (by rw [cvec_len]; exact hj)]
  simp only [cvec, List.getElem_map]
theorem now_zero : (List.replicate L.length (0 : Int)).set 0 1 = nowL l k L 0 := by
  have h1 := ini_vec hM
  have h2 : tab.length = L.length := by rw [hM.tab_eq, List.length_map]
  rw [h2] at h1
  unfold iniM at h1
  rw [h1]
  refine List.ext_getElem (by unfold up; rw [List.length_map, List.length_map, nowL_len]) (fun j hj1 hj2 => ?_)
  have hj : j < L.length := by rw [nowL_len] at hj2; exact hj2
  have h3 := cn_le (l := l) (k := k) (P := prefM l) 0 (q := L[j])
  rw [up_get hj1 (by rw [List.length_map]; exact hj), nowL_get hj2 (by rw [cvec_len]; exact hj)]
  simp only [cvec, List.getElem_map]
  rw [sat_id (Nat.le_trans h3 (by show 1 ≤ _; decide))]
theorem tab_get {q : Nat} (hq : q < tab.length) : tab[q].length = k ∧ ∀ t ∈ tab[q], t < (L.length : Int) := by
  refine ⟨?_, tab_lt hM rfl _ (List.getElem_mem hq)⟩
  have h1 : tab[q] ∈ L.map (rowL l (prefM l) k L) := by rw [← hM.tab_eq]; exact List.getElem_mem hq
  obtain ⟨s, _, h2⟩ := List.mem_map.1 h1
  rw [← h2, rowL_len]
end
end Go.Words
namespace Go.Proofs.YtoghnhbjdnjghaaGreat
open Go.W Go.Words Go.RowKit
set_option maxRecDepth 100000
attribute [local irreducible] WC WL WQ WS WH

/-- The block of a list of numbers. -/
abbrev Bz (b : Nat) (l : List Int) : Ent := .blk b (.cells (zs l).toArray 3 (0, 0))
theorem Mem.at_ {w : World} {ta : Option Addr} {R : Rq} (h : Mem w ta R) {q : Nat} (hq : q < R.length) : ∃ b o rb rc1, ta = some ⟨b, o, none⟩ ∧ w.cell? ⟨b, o + q, none⟩ = some (.slice (some ⟨rb, 0, none⟩) R[q].2.2.2.length rc1) ∧ Sl w (some ⟨rb, 0, none⟩) (zs R[q].2.2.2) := by
  obtain ⟨b, o, h1, h2⟩ := h.top q _ (by unfold rvQ; rw [List.getElem?_map, List.getElem?_eq_getElem hq]; rfl)
  exact ⟨b, o, _, _, h1, h2, h.rows _ (List.getElem_mem hq)⟩
theorem bz_cell {w0 w : World} {b : Nat} {l : List Int} {L : List Ent} {i : Nat} (hp : Hp w0 w L) (hi : nth L i = some (Bz b l)) {j : Nat} (hj : j < l.length) : w.cell? ⟨b, 0 + j, none⟩ = some (.int .i64 l[j]) := by
  rw [Nat.zero_add]
  exact cell_of_obj (hp.obj i hi) (by rw [List.getElem?_toArray, zs_at hj])
/-- What Count hands back. -/
def RCouP (o : Option (List Int)) (w : World) (u : Value) (w' : World) : Prop := match o with
  | some o => ∃ pa pc, u = .tuple #[.slice pa o.length pc, .bool true] ∧ Hp w w' [Ri (.slice pa o.length pc) o]
  | none => u = .tuple #[.slice none 0 0, .bool false] ∧ Hp w w' []

set_option maxHeartbeats 4000000 in
theorem rCount_any (a : Option Addr) (cap : Nat) (l : List Rl) (k n : Nat) (hk1 : 1 ≤ k) (hk : k ≤ 8) (hn : n ≤ 40) (hl : l.length ≤ 64) (hm : Sm 24 l) (hd : Dc l) (w : World) (hs : Sl w a (rcs l)) :
    Ret Tryz.prog 32 [.slice a l.length cap, .int .i64 (k : Nat), .int .i64 (n : Nat)] w (RCouP (countM l k n) w) := by
  refine enter Tryz.func32 rfl rfl ⟨rfl, rfl⟩ rfl ?_
  repeat (first | refine WC.seq ?_ | refine WC.reg ?_ | refine WL.pure rfl rfl rfl ?_ | refine WL.nil ?_ | refine WC.skip ?_ | refine WC.block ?_ | refine WC.condT rfl ?_ | refine WC.condF rfl ?_ | refine WL.off rfl rfl rfl ?_ | refine WL.off0 rfl rfl ?_ | refine WC.exit ?_ | refine blk_hit ?_ | refine blk_miss rfl ?_ | refine WC.ret ?_)
  refine WL.call rfl rfl rfl rfl rfl ent57 (rBuild_any a cap l k hk1 hk hl hm hd w hs) ?_
  rintro _ w1 ⟨sa, sc, ta, tc, L, R, rfl, hRL, hM, hMem, hLP, hp1⟩
  have hLb : L.length ≤ 2000 := by
    have := (prefM_pfx hm).len
    omega
  have h0 := len_pos hM
  refine WL.alloc rfl rfl rfl ?_
  intro b8 w2 hb8
  have hp2 := (Hp.start w1).new hb8
  refine WL.storeN (vs := #[.slice sa L.length sc, .slice ta R.length tc]) (arr2 := #[.slice sa L.length sc, .slice ta R.length tc]) rfl rfl rfl rfl rfl (by intro v hv; simp only [List.mem_cons, List.not_mem_nil, or_false] at hv; rcases hv with rfl | rfl <;> rfl) (hp2.obj 0 rfl) (Nat.le_refl 2) rfl (fun w3 hw3 => ?_)
  have hp3 : Hp w1 w3 [Xm b8 (.slice sa L.length sc) (.slice ta R.length tc)] := hp2.set 0 rfl rfl hw3
  have hMem : ∀ w' X, Hp w1 w' X → Mem w' ta R := fun w' X h => hMem.hp h
  clear hp2 hw3 hb8
  repeat (first | refine WC.seq ?_ | refine WC.reg ?_ | refine WL.pure rfl rfl rfl ?_ | refine WL.nil ?_ | refine WC.skip ?_ | refine WC.block ?_ | refine WC.condT rfl ?_ | refine WC.condF rfl ?_ | refine WL.off rfl rfl rfl ?_ | refine WL.off0 rfl rfl ?_ | refine WC.exit ?_ | refine blk_hit ?_ | refine blk_miss rfl ?_ | refine WC.ret ?_)
  refine WL.loadB rfl rfl rfl rfl rfl (hp3.obj 0 rfl) (j := 0) rfl ?_
  repeat (first | refine WC.seq ?_ | refine WC.reg ?_ | refine WL.pure rfl rfl rfl ?_ | refine WL.nil ?_ | refine WC.skip ?_ | refine WC.block ?_ | refine WC.condT rfl ?_ | refine WC.condF rfl ?_ | refine WL.off rfl rfl rfl ?_ | refine WL.off0 rfl rfl ?_ | refine WC.exit ?_ | refine blk_hit ?_ | refine blk_miss rfl ?_ | refine WC.ret ?_)
  refine WL.make rfl rfl rfl rfl rfl rfl rfl rfl (by show 8 * L.length ≤ _; omega) (by unfold maxLen; omega) ?_
  intro nb0 w4 hnb
  have hp4 : Hp w1 w4 [Bz nb0 (List.replicate L.length 0), Xm b8 (.slice sa L.length sc) (.slice ta R.length tc)] := by
    have := hp3.new hnb
    unfold Bz zs
    rw [List.map_replicate]
    exact this
  repeat (first | refine WC.seq ?_ | refine WC.reg ?_ | refine WL.pure rfl rfl rfl ?_ | refine WL.nil ?_ | refine WC.skip ?_ | refine WC.block ?_ | refine WC.condT rfl ?_ | refine WC.condF rfl ?_ | refine WL.off rfl rfl rfl ?_ | refine WL.off0 rfl rfl ?_ | refine WC.exit ?_ | refine blk_hit ?_ | refine blk_miss rfl ?_ | refine WC.ret ?_)
  refine WL.ix1 rfl rfl rfl rfl rfl rfl (j := 0) rfl h0 ?_
  refine WL.store rfl rfl rfl rfl rfl rfl (hp4.obj 0 rfl) (by rw [List.size_toArray, zs_len, List.length_replicate]; show 0 + 0 < _; omega) (fun w5 hw5 => ?_)
  rw [show 0 + 0 = 0 from rfl, zs_set, now_zero hM] at hw5
  have hp5 : Hp w1 w5 [Bz nb0 (nowL l k L 0), Xm b8 (.slice sa L.length sc) (.slice ta R.length tc)] := hp4.set 0 rfl rfl hw5
  have hp5 : Hp w1 w5 [Bz nb0 (nowL l k L 0), Ri (.slice none 0 0) [], Xm b8 (.slice sa L.length sc) (.slice ta R.length tc)] := (hp5.nilrow 3 1).swap
  clear hp4 hp3 hw5 hnb
  have hRt : ∀ q (h : q < R.length) (h2 : q < (R.map (·.2.2.2)).length), (R.map (·.2.2.2))[q] = R[q].2.2.2 := fun q h h2 => by rw [List.getElem_map]
  have htabl : (R.map (·.2.2.2)).length = L.length := by rw [List.length_map, hRL]
  generalize hTe : R.map (·.2.2.2) = tab at *
  repeat (first | refine WC.seq ?_ | refine WC.reg ?_ | refine WL.pure rfl rfl rfl ?_ | refine WL.nil ?_ | refine WC.skip ?_ | refine WC.block ?_ | refine WC.condT rfl ?_ | refine WC.condF rfl ?_ | refine WL.off rfl rfl rfl ?_ | refine WL.off0 rfl rfl ?_ | refine WC.exit ?_ | refine blk_hit ?_ | refine blk_miss rfl ?_ | refine WC.ret ?_)
  refine WC.loop (Nat × Nat × Option Addr × Nat × List Int) (fun (t, nb, pa, pc, out) => [(1, .int .i64 (k : Nat)), (2, .int .i64 (n : Nat)), (8, .pointer (some ⟨b8, 0, none⟩)), (9, .slice (some ⟨nb, 0, none⟩) L.length L.length), (10, .slice pa out.length pc), (11, .int .i64 (t : Nat))])
    (fun (t, nb, pa, pc, out) w' => t ≤ n + 1 ∧ (∀ j, j < t → (NN l k j : Int) ≤ 4611686018427387904) ∧ out = (List.range t).map (fun j => (NN l k j : Int)) ∧ Hp w1 w' [Bz nb (nowL l k L t), Ri (.slice pa out.length pc) out, Xm b8 (.slice sa L.length sc) (.slice ta R.length tc)])
    (fun (t, _) => n + 1 - t) (0, nb0, none, 0, []) ⟨rfl, rfl, rfl, rfl, rfl, rfl, rfl⟩ ⟨Nat.zero_le _, fun j h => absurd h (Nat.not_lt_zero j), rfl, hp5⟩ ?_
  clear hp5
  rintro ⟨t, nb, pa, pc, out⟩ w6 ⟨ht, hNN, hout, hp6⟩
  have hol : out.length = t := by rw [hout, List.length_map, List.length_range]
  repeat (first | refine WC.seq ?_ | refine WC.reg ?_ | refine WL.pure rfl rfl rfl ?_ | refine WL.nil ?_ | refine WC.skip ?_ | refine WC.block ?_ | refine WC.condT rfl ?_ | refine WC.condF rfl ?_ | refine WL.off rfl rfl rfl ?_ | refine WL.off0 rfl rfl ?_ | refine WC.exit ?_ | refine blk_hit ?_ | refine blk_miss rfl ?_ | refine WC.ret ?_)
  refine WC.cond rfl (fun hc => ?_) (fun hc => ?_)
  · have ht : t ≤ n := by have := of_decide_eq_true hc; omega
    have stept := wrap_succ (show t < n + 1 by omega) (by omega)
    have hcs := cvec_sum hM t
    have hcl := cvec_len l k L t
    have hnl := nowL_len l k L t
    have hng : ∀ j (h : j < (nowL l k L t).length) (h2 : j < (cvec l k L t).length), (nowL l k L t)[j] = ((satN (cvec l k L t)[j] : Nat) : Int) := fun j h h2 => nowL_get h h2
    have hacc := acc_now hM t
    generalize cvec l k L t = ns at *
    generalize hNW : nowL l k L t = NW at *
    repeat (first | refine WC.seq ?_ | refine WC.reg ?_ | refine WL.pure rfl rfl rfl ?_ | refine WL.nil ?_ | refine WC.skip ?_ | refine WC.block ?_ | refine WC.condT rfl ?_ | refine WC.condF rfl ?_ | refine WL.off rfl rfl rfl ?_ | refine WL.off0 rfl rfl ?_ | refine WC.exit ?_ | refine blk_hit ?_ | refine blk_miss rfl ?_ | refine WC.ret ?_)
    refine WL.loadB rfl rfl rfl rfl rfl (hp6.obj 2 rfl) (j := 0) rfl ?_
    repeat (first | refine WC.seq ?_ | refine WC.reg ?_ | refine WL.pure rfl rfl rfl ?_ | refine WL.nil ?_ | refine WC.skip ?_ | refine WC.block ?_ | refine WC.condT rfl ?_ | refine WC.condF rfl ?_ | refine WL.off rfl rfl rfl ?_ | refine WL.off0 rfl rfl ?_ | refine WC.exit ?_ | refine blk_hit ?_ | refine blk_miss rfl ?_ | refine WC.ret ?_)
    refine WL.make rfl rfl rfl rfl rfl rfl rfl rfl (by show 8 * L.length ≤ _; omega) (by unfold maxLen; omega) ?_
    intro bn w7 hbn
    have hp7 : Hp w1 w7 [Bz bn (List.replicate L.length 0), Bz nb NW, Ri (.slice pa out.length pc) out, Xm b8 (.slice sa L.length sc) (.slice ta R.length tc)] := by
      have := hp6.new hbn
      unfold Bz zs
      rw [List.map_replicate]
      exact this
    clear hp6 hbn
    repeat (first | refine WC.seq ?_ | refine WC.reg ?_ | refine WL.pure rfl rfl rfl ?_ | refine WL.nil ?_ | refine WC.skip ?_ | refine WC.block ?_ | refine WC.condT rfl ?_ | refine WC.condF rfl ?_ | refine WL.off rfl rfl rfl ?_ | refine WL.off0 rfl rfl ?_ | refine WC.exit ?_ | refine blk_hit ?_ | refine blk_miss rfl ?_ | refine WC.ret ?_)
    refine WC.loop Nat (fun q => [(1, .int .i64 (k : Nat)), (2, .int .i64 (n : Nat)), (8, .pointer (some ⟨b8, 0, none⟩)), (9, .slice (some ⟨nb, 0, none⟩) L.length L.length), (10, .slice pa out.length pc), (11, .int .i64 (t : Nat)), (12, .int .i64 ((ns.take q).sum : Nat)), (13, .slice (some ⟨bn, 0, none⟩) L.length L.length), (14, .int .i64 (q : Nat))])
      (fun q w' => q ≤ L.length ∧ (ns.take q).sum ≤ 4611686018427387904 ∧ w' = w7) (fun q => L.length - q) 0 ⟨rfl, rfl, rfl, rfl, rfl, rfl, rfl, rfl, rfl, rfl⟩ ⟨Nat.zero_le _, Nat.zero_le _, rfl⟩ ?_
    rintro q w8 ⟨hq, hsum, hw8⟩
    obtain rfl := hw8.symm
    repeat (first | refine WC.seq ?_ | refine WC.reg ?_ | refine WL.pure rfl rfl rfl ?_ | refine WL.nil ?_ | refine WC.skip ?_ | refine WC.block ?_ | refine WC.condT rfl ?_ | refine WC.condF rfl ?_ | refine WL.off rfl rfl rfl ?_ | refine WL.off0 rfl rfl ?_ | refine WC.exit ?_ | refine blk_hit ?_ | refine blk_miss rfl ?_ | refine WC.ret ?_)
    refine WC.cond rfl (fun hc1 => ?_) (fun hc1 => ?_)
    · have hq : q < L.length := by have := of_decide_eq_true hc1; omega
      have stepq := wrap_succ hq (by omega)
      have hqn : q < ns.length := by omega
      have hcell := bz_cell hp7 (i := 1) rfl (j := q) (by omega)
      rw [hng q (by omega) hqn] at hcell
      have hss := sum_take_succ hqn
      have hsl := sum_take_le ns (q + 1)
      have e47 : IntKind.i64.wrap (4611686018427387904 - (((ns.take q).sum : Nat) : Int)) = 4611686018427387904 - (((ns.take q).sum : Nat) : Int) := by rw [wrap_mid (by omega) (by omega)]
      generalize ns[q] = x at *
      repeat (first | refine WC.seq ?_ | refine WC.reg ?_ | refine WL.pure rfl rfl rfl ?_ | refine WL.nil ?_ | refine WC.skip ?_ | refine WC.block ?_ | refine WC.condT rfl ?_ | refine WC.condF rfl ?_ | refine WL.off rfl rfl rfl ?_ | refine WL.off0 rfl rfl ?_ | refine WC.exit ?_ | refine blk_hit ?_ | refine blk_miss rfl ?_ | refine WC.ret ?_)
      refine WL.ix1 rfl rfl rfl rfl rfl rfl rfl hq ?_
      refine WL.load rfl rfl rfl rfl rfl hcell ?_
      repeat (first | refine WC.seq ?_ | refine WC.reg ?_ | refine WL.pure rfl rfl rfl ?_ | refine WL.nil ?_ | refine WC.skip ?_ | refine WC.block ?_ | refine WC.condT rfl ?_ | refine WC.condF rfl ?_ | refine WL.off rfl rfl rfl ?_ | refine WL.off0 rfl rfl ?_ | refine WC.exit ?_ | refine blk_hit ?_ | refine blk_miss rfl ?_ | refine WC.ret ?_)
      refine WC.cond rfl (fun h => ?_) (fun h => ?_)
      · have h := of_decide_eq_true h
        rw [e47] at h
        have hbig : 4611686018427387904 < (NN l k t : Int) := by unfold satN at h; omega
        repeat (first | refine WC.seq ?_ | refine WC.reg ?_ | refine WL.pure rfl rfl rfl ?_ | refine WL.nil ?_ | refine WC.skip ?_ | refine WC.block ?_ | refine WC.condT rfl ?_ | refine WC.condF rfl ?_ | refine WL.off rfl rfl rfl ?_ | refine WL.off0 rfl rfl ?_ | refine WC.exit ?_ | refine blk_hit ?_ | refine blk_miss rfl ?_ | refine WC.ret ?_)
        refine Res.two rfl rfl rfl rfl ?_
        rw [countM_no hd ⟨t, ht, hbig⟩]
        exact ⟨rfl, (hp1.over hp7).nil'⟩
      · have h := of_decide_eq_false h
        rw [e47] at h
        have hx : x ≤ 4611686018427387904 := by unfold satN at h; omega
        rw [sat_id hx] at h hcell
        have e54 : IntKind.i64.wrap ((((ns.take q).sum : Nat) : Int) + ((satN x : Nat) : Int)) = (((ns.take (q + 1)).sum : Nat) : Int) := by rw [sat_id hx, wrap_i64_in (by omega) (by omega)]; omega
        rw [sat_id hx] at e54
        repeat (first | refine WC.seq ?_ | refine WC.reg ?_ | refine WL.pure rfl rfl rfl ?_ | refine WL.nil ?_ | refine WC.skip ?_ | refine WC.block ?_ | refine WC.condT rfl ?_ | refine WC.condF rfl ?_ | refine WL.off rfl rfl rfl ?_ | refine WL.off0 rfl rfl ?_ | refine WC.exit ?_ | refine blk_hit ?_ | refine blk_miss rfl ?_ | refine WC.ret ?_)
        refine WL.ix1 rfl rfl rfl rfl rfl rfl rfl hq ?_
        refine WL.load rfl rfl rfl rfl rfl hcell ?_
        repeat (first | refine WC.seq ?_ | refine WC.reg ?_ | refine WL.pure rfl rfl rfl ?_ | refine WL.nil ?_ | refine WC.skip ?_ | refine WC.block ?_ | refine WC.condT rfl ?_ | refine WC.condF rfl ?_ | refine WL.off rfl rfl rfl ?_ | refine WL.off0 rfl rfl ?_ | refine WC.exit ?_ | refine blk_hit ?_ | refine blk_miss rfl ?_ | refine WC.ret ?_)
        exact ⟨q + 1, by omega, ⟨rfl, rfl, rfl, rfl, rfl, rfl, congrArg (fun z => some (Value.int .i64 z)) e54, rfl, congrArg (fun z => some (Value.int .i64 z)) stepq, rfl⟩, by omega, by omega, rfl⟩
    have hq : q = L.length := by have := of_decide_eq_false hc1; omega
    have hsum2 : (ns.take q).sum = NN l k t := by rw [List.take_of_length_le (by omega), hcs]
    have hNt : NN l k t ≤ 4611686018427387904 := by rw [← hsum2]; exact hsum
    clear hc1 hsum hq
    have hx : ∀ q (h : q < ns.length), ns[q] ≤ 4611686018427387904 := fun q h => by
      have := le_sum ns ns[q] (List.getElem_mem h)
      omega
    have e1 : (out ++ [(NN l k t : Int)]).length = out.length + 1 := by rw [List.length_append]; rfl
    have hout2 : out ++ [(NN l k t : Int)] = (List.range (t + 1)).map (fun j => (NN l k j : Int)) := by rw [List.range_succ, List.map_append, ← hout]; rfl
    generalize (ns.take q).sum = SM at *
    subst hsum2
    repeat (first | refine WC.seq ?_ | refine WC.reg ?_ | refine WL.pure rfl rfl rfl ?_ | refine WL.nil ?_ | refine WC.skip ?_ | refine WC.block ?_ | refine WC.condT rfl ?_ | refine WC.condF rfl ?_ | refine WL.off rfl rfl rfl ?_ | refine WL.off0 rfl rfl ?_ | refine WC.exit ?_ | refine blk_hit ?_ | refine blk_miss rfl ?_ | refine WC.ret ?_)
    refine WL.buildS (cs := zs [(NN l k t : Int)]) rfl rfl rfl rfl rfl rfl rfl rfl rfl ?_
    intro b6 w9 hb6
    have hp9 := hp7.new hb6
    refine WL.append 3 hp9 rfl rfl rfl rfl rfl (by decide) rfl rfl rfl (news := zs [(NN l k t : Int)]) (Sl.of_obj (hp9.obj 0 rfl) (fun q u hq => by simpa using hq)) rfl (zs_cells _) (by unfold maxLen; omega) (by show (out.length + 1) * 8 ≤ _; omega) ?_
    intro ra rc1 w10 hp10 hg10
    have hp10 := hp10.tail
    have hz0 : List.replicate L.length (0 : Int) = nxL L.length fun j => accS (ns.take 0) (tab.take 0) j := (nxL_zero L.length).symm
    have hp10 : Hp w1 w10 [Bz bn (nxL L.length fun j => accS (ns.take 0) (tab.take 0) j), Bz nb NW, Ri (.slice ra (out ++ [(NN l k t : Int)]).length rc1) (out ++ [(NN l k t : Int)]), Xm b8 (.slice sa L.length sc) (.slice ta R.length tc)] := by
      rw [← hz0]
      unfold Ri
      rw [e1, show zs (out ++ [(NN l k t : Int)]) = zs out ++ zs [(NN l k t : Int)] from List.map_append]
      exact hp10
    clear hp9 hp7 hb6 hg10 hz0
    repeat (first | refine WC.seq ?_ | refine WC.reg ?_ | refine WL.pure rfl rfl rfl ?_ | refine WL.nil ?_ | refine WC.skip ?_ | refine WC.block ?_ | refine WC.condT rfl ?_ | refine WC.condF rfl ?_ | refine WL.off rfl rfl rfl ?_ | refine WL.off0 rfl rfl ?_ | refine WC.exit ?_ | refine blk_hit ?_ | refine blk_miss rfl ?_ | refine WC.ret ?_)
    refine WC.loop Nat (fun q => [(1, .int .i64 (k : Nat)), (2, .int .i64 (n : Nat)), (8, .pointer (some ⟨b8, 0, none⟩)), (9, .slice (some ⟨nb, 0, none⟩) L.length L.length), (10, .slice ra (out ++ [(NN l k t : Int)]).length rc1), (11, .int .i64 (t : Nat)), (13, .slice (some ⟨bn, 0, none⟩) L.length L.length), (15, .int .i64 (q : Nat))])
      (fun q w' => q ≤ L.length ∧ Hp w1 w' [Bz bn (nxL L.length fun j => accS (ns.take q) (tab.take q) j), Bz nb NW, Ri (.slice ra (out ++ [(NN l k t : Int)]).length rc1) (out ++ [(NN l k t : Int)]), Xm b8 (.slice sa L.length sc) (.slice ta R.length tc)]) (fun q => L.length - q) 0 ⟨rfl, rfl, rfl, rfl, congrArg (fun z : Nat => some (Value.slice ra z rc1)) e1.symm, rfl, rfl, rfl, rfl⟩ ⟨Nat.zero_le _, hp10⟩ ?_
    clear hp10
    rintro q w11 ⟨hq, hp11⟩
    repeat (first | refine WC.seq ?_ | refine WC.reg ?_ | refine WL.pure rfl rfl rfl ?_ | refine WL.nil ?_ | refine WC.skip ?_ | refine WC.block ?_ | refine WC.condT rfl ?_ | refine WC.condF rfl ?_ | refine WL.off rfl rfl rfl ?_ | refine WL.off0 rfl rfl ?_ | refine WC.exit ?_ | refine blk_hit ?_ | refine blk_miss rfl ?_ | refine WC.ret ?_)
    refine WC.cond rfl (fun hc1 => ?_) (fun hc1 => ?_)
    · have hq : q < L.length := by have := of_decide_eq_true hc1; omega
      have stepq := wrap_succ hq (by omega)
      have hqn : q < ns.length := by omega
      have hqt : q < tab.length := by omega
      have hqR : q < R.length := by omega
      obtain ⟨hrl, hrt⟩ := tab_get hM hqt
      have hat := accS_take ns tab q hqn hqt
      have hRq := hRt q hqR hqt
      obtain ⟨tb, to_, rb, rcc, hta, _, _⟩ := (hMem _ _ hp11).at_ hqR
      subst hta
      have hrow : ∀ w' X, Hp w1 w' X → ∃ rb rcc, w'.cell? ⟨tb, to_ + q, none⟩ = some (.slice (some ⟨rb, 0, none⟩) tab[q].length rcc) ∧ Sl w' (some ⟨rb, 0, none⟩) (zs tab[q]) := fun w' X h => by
        obtain ⟨tb', to', rb, rcc, he, h2, h3⟩ := (hMem _ _ h).at_ hqR
        simp only [Option.some.injEq, Addr.mk.injEq, and_true] at he
        obtain ⟨rfl, rfl⟩ := he
        rw [← hRq] at h2 h3
        exact ⟨rb, rcc, h2, h3⟩
      have hxq := hx q hqn
      have hnq := hng q (by omega) hqn
      rw [sat_id hxq] at hnq
      generalize tab[q] = row at *
      generalize ns[q] = x at *
      have hst0 : (nxL L.length fun j => accS (ns.take q) (tab.take q) j) = nxL L.length fun j => accS (ns.take q) (tab.take q) j + x * hits (row.take 0) j := nxL_congr (fun j _ => by show _ = _ + x * 0; rw [Nat.mul_zero, Nat.add_zero])
      rw [hst0] at hp11
      repeat (first | refine WC.seq ?_ | refine WC.reg ?_ | refine WL.pure rfl rfl rfl ?_ | refine WL.nil ?_ | refine WC.skip ?_ | refine WC.block ?_ | refine WC.condT rfl ?_ | refine WC.condF rfl ?_ | refine WL.off rfl rfl rfl ?_ | refine WL.off0 rfl rfl ?_ | refine WC.exit ?_ | refine blk_hit ?_ | refine blk_miss rfl ?_ | refine WC.ret ?_)
      refine WC.loop Nat (fun c => [(1, .int .i64 (k : Nat)), (2, .int .i64 (n : Nat)), (8, .pointer (some ⟨b8, 0, none⟩)), (9, .slice (some ⟨nb, 0, none⟩) L.length L.length), (10, .slice ra (out ++ [(NN l k t : Int)]).length rc1), (11, .int .i64 (t : Nat)), (13, .slice (some ⟨bn, 0, none⟩) L.length L.length), (15, .int .i64 (q : Nat)), (16, .int .i64 (c : Nat))])
        (fun c w' => c ≤ k ∧ Hp w1 w' [Bz bn (nxL L.length fun j => accS (ns.take q) (tab.take q) j + x * hits (row.take c) j), Bz nb NW, Ri (.slice ra (out ++ [(NN l k t : Int)]).length rc1) (out ++ [(NN l k t : Int)]), Xm b8 (.slice sa L.length sc) (.slice (some ⟨tb, to_, none⟩) R.length tc)]) (fun c => k - c) 0 ⟨rfl, rfl, rfl, rfl, rfl, rfl, rfl, rfl, rfl, rfl⟩ ⟨Nat.zero_le _, hp11⟩ ?_
      clear hp11 hst0
      rintro c w12 ⟨hc, hp12⟩
      repeat (first | refine WC.seq ?_ | refine WC.reg ?_ | refine WL.pure rfl rfl rfl ?_ | refine WL.nil ?_ | refine WC.skip ?_ | refine WC.block ?_ | refine WC.condT rfl ?_ | refine WC.condF rfl ?_ | refine WL.off rfl rfl rfl ?_ | refine WL.off0 rfl rfl ?_ | refine WC.exit ?_ | refine blk_hit ?_ | refine blk_miss rfl ?_ | refine WC.ret ?_)
      refine WC.cond rfl (fun hc2 => ?_) (fun hc2 => ?_)
      · have hc : c < k := by have := of_decide_eq_true hc2; omega
        have stepc := wrap_succ hc (by omega)
        have hcr : c < row.length := by omega
        obtain ⟨rb, rcc, hcell1, hsl⟩ := hrow _ _ hp12
        obtain ⟨_, _, he, hcell2⟩ := zs_cellS hsl hcr
        simp only [Option.some.injEq, Addr.mk.injEq, and_true] at he
        obtain ⟨rfl, rfl⟩ := he
        have hht := hits_take hcr
        have hlt := hrt row[c] (List.getElem_mem hcr)
        generalize row[c] = to at *
        repeat (first | refine WC.seq ?_ | refine WC.reg ?_ | refine WL.pure rfl rfl rfl ?_ | refine WL.nil ?_ | refine WC.skip ?_ | refine WC.block ?_ | refine WC.condT rfl ?_ | refine WC.condF rfl ?_ | refine WL.off rfl rfl rfl ?_ | refine WL.off0 rfl rfl ?_ | refine WC.exit ?_ | refine blk_hit ?_ | refine blk_miss rfl ?_ | refine WC.ret ?_)
        refine WL.loadB rfl rfl rfl rfl rfl (hp12.obj 3 rfl) (j := 1) rfl ?_
        repeat (first | refine WC.seq ?_ | refine WC.reg ?_ | refine WL.pure rfl rfl rfl ?_ | refine WL.nil ?_ | refine WC.skip ?_ | refine WC.block ?_ | refine WC.condT rfl ?_ | refine WC.condF rfl ?_ | refine WL.off rfl rfl rfl ?_ | refine WL.off0 rfl rfl ?_ | refine WC.exit ?_ | refine blk_hit ?_ | refine blk_miss rfl ?_ | refine WC.ret ?_)
        refine WL.ix1 rfl rfl rfl rfl rfl rfl rfl hqR ?_
        refine WL.load rfl rfl rfl rfl rfl hcell1 ?_
        repeat (first | refine WC.seq ?_ | refine WC.reg ?_ | refine WL.pure rfl rfl rfl ?_ | refine WL.nil ?_ | refine WC.skip ?_ | refine WC.block ?_ | refine WC.condT rfl ?_ | refine WC.condF rfl ?_ | refine WL.off rfl rfl rfl ?_ | refine WL.off0 rfl rfl ?_ | refine WC.exit ?_ | refine blk_hit ?_ | refine blk_miss rfl ?_ | refine WC.ret ?_)
        refine WL.ix1 rfl rfl rfl rfl rfl rfl rfl hcr ?_
        refine WL.load rfl rfl rfl rfl rfl hcell2 ?_
        repeat (first | refine WC.seq ?_ | refine WC.reg ?_ | refine WL.pure rfl rfl rfl ?_ | refine WL.nil ?_ | refine WC.skip ?_ | refine WC.block ?_ | refine WC.condT rfl ?_ | refine WC.condF rfl ?_ | refine WL.off rfl rfl rfl ?_ | refine WL.off0 rfl rfl ?_ | refine WC.exit ?_ | refine blk_hit ?_ | refine blk_miss rfl ?_ | refine WC.ret ?_)
        refine WC.cond rfl (fun h5 => ?_) (fun h5 => ?_)
        · have h5 := of_decide_eq_true h5
          obtain ⟨tn, rfl⟩ : ∃ tn : Nat, to = (tn : Int) := ⟨to.toNat, by omega⟩
          have htn : tn < L.length := by omega
          have hset := nxL_set (m := L.length) (f := fun j => accS (ns.take q) (tab.take q) j + x * hits (row.take c) j) (g := fun j => accS (ns.take q) (tab.take q) j + x * hits (row.take (c + 1)) j) (t := tn) (b := x) (by
            show _ + x * hits (row.take (c + 1)) tn = _ + x * hits (row.take c) tn + x
            rw [hht tn, if_pos rfl, Nat.mul_add, Nat.mul_one]; omega) (fun j hj => by
            show _ + x * hits (row.take (c + 1)) j = _ + x * hits (row.take c) j
            rw [hht j, if_neg (by omega), Nat.add_zero])
          obtain ⟨y, hy⟩ : ∃ y, accS (ns.take q) (tab.take q) tn + x * hits (row.take c) tn = y := ⟨_, rfl⟩
          have hset : (nxL L.length fun j => accS (ns.take q) (tab.take q) j + x * hits (row.take c) j).set tn ((satN (y + x) : Nat) : Int) = nxL L.length fun j => accS (ns.take q) (tab.take q) j + x * hits (row.take (c + 1)) j := by rw [← hy]; exact hset
          have hpl := plus_any y x hxq
          obtain ⟨FV, hvl, hvg, hset, hp12⟩ : ∃ FV : List Int, FV.length = L.length ∧ (∀ h : tn < FV.length, FV[tn] = ((satN y : Nat) : Int)) ∧ FV.set tn ((satN (y + x) : Nat) : Int) = (nxL L.length fun j => accS (ns.take q) (tab.take q) j + x * hits (row.take (c + 1)) j) ∧
              Hp w1 w12 [Bz bn FV, Bz nb NW, Ri (.slice ra (out ++ [(NN l k t : Int)]).length rc1) (out ++ [(NN l k t : Int)]), Xm b8 (.slice sa L.length sc) (.slice (some ⟨tb, to_, none⟩) R.length tc)] :=
            ⟨_, nxL_len _ _, fun h => by rw [nxL_get]; show ((satN (accS (ns.take q) (tab.take q) tn + x * hits (row.take c) tn) : Nat) : Int) = _; rw [hy], hset, hp12⟩
          repeat (first | refine WC.seq ?_ | refine WC.skip ?_ | refine WC.block ?_)
          refine WC.mid Unit (fun _ => [(1, .int .i64 (k : Nat)), (2, .int .i64 (n : Nat)), (8, .pointer (some ⟨b8, 0, none⟩)), (9, .slice (some ⟨nb, 0, none⟩) L.length L.length), (10, .slice ra (out ++ [(NN l k t : Int)]).length rc1), (11, .int .i64 (t : Nat)), (13, .slice (some ⟨bn, 0, none⟩) L.length L.length), (15, .int .i64 (q : Nat)), (16, .int .i64 (c : Nat))])
            (fun _ w' => Hp w1 w' [Bz bn (FV.set tn ((satN (y + x) : Nat) : Int)), Bz nb NW, Ri (.slice ra (out ++ [(NN l k t : Int)]).length rc1) (out ++ [(NN l k t : Int)]), Xm b8 (.slice sa L.length sc) (.slice (some ⟨tb, to_, none⟩) R.length tc)]) ?_ ?_
          · refine WC.regH (fun _ => True) mixed (by kernel_rfl) (fun w13 hw13 hh13 => ?_)
            have hp13 := hp12.keep hw13
            refine WH.pure 0 (by kernel_rfl) rfl (by kernel_rfl) rfl rfl rfl (trivial) ?_
            refine WH.pure 1 (by kernel_rfl) rfl (by kernel_rfl) rfl rfl rfl (trivial) ?_
            refine WH.pure 2 (by kernel_rfl) rfl (by kernel_rfl) rfl rfl rfl (trivial) ?_
            refine WH.pure 3 (by kernel_rfl) rfl (by kernel_rfl) rfl rfl rfl (trivial) ?_
            refine WH.ixS 4 (by kernel_rfl) rfl (by kernel_rfl) rfl rfl rfl rfl rfl rfl htn trivial ?_
            refine WH.pure 6 (by kernel_rfl) rfl (by kernel_rfl) rfl rfl rfl (trivial) ?_
            refine WH.pure 7 (by kernel_rfl) rfl (by kernel_rfl) rfl rfl rfl (trivial) ?_
            refine WH.ixS 8 (by kernel_rfl) rfl (by kernel_rfl) rfl rfl rfl rfl rfl rfl hq trivial ?_
            have hc5 := bz_cell hp13 (i := 0) rfl (j := tn) (by omega)
            have hc9 := bz_cell hp13 (i := 1) rfl (j := q) (by omega)
            rw [hvg] at hc5
            rw [hnq] at hc9
            have hfin : ∀ w14, SetB w13 bn (.cells ((zs FV).toArray.setIfInBounds (0 + tn * ti3.size) (.int .i64 ((satN (y + x) : Nat) : Int))) 3 (0, 0)) w14 → Hp w1 w14 [Bz bn (FV.set tn ((satN (y + x) : Nat) : Int)), Bz nb NW, Ri (.slice ra (out ++ [(NN l k t : Int)]).length rc1) (out ++ [(NN l k t : Int)]), Xm b8 (.slice sa L.length sc) (.slice (some ⟨tb, to_, none⟩) R.length tc)] := fun w14 h => by
              rw [show 0 + tn * ti3.size = tn by show 0 + tn * 1 = tn; omega, zs_set] at h
              exact hp13.set 0 rfl rfl h
            refine WH.two 5 9 rfl rfl (by kernel_rfl) ?_ ?_
            · refine WL.load rfl rfl rfl rfl rfl (by rw [show tn * ti3.size = tn from Nat.mul_one tn]; exact hc5) (WL.nil ⟨trivial, ?_⟩)
              refine WH.one 9 rfl (by kernel_rfl) ?_
              refine WL.load rfl rfl rfl rfl rfl (by rw [show q * ti3.size = q from Nat.mul_one q]; exact hc9) (WL.nil ⟨trivial, ?_⟩)
              refine WH.one 10 rfl (by kernel_rfl) ?_
              refine WL.callP rfl rfl rfl rfl rfl ent58 (hpl w13) (WL.nil ⟨trivial, ?_⟩)
              refine WH.ixS 11 (by kernel_rfl) rfl (by kernel_rfl) rfl rfl rfl rfl rfl rfl htn trivial ?_
              refine WH.one 12 rfl (by kernel_rfl) ?_
              refine WL.store rfl rfl rfl rfl rfl rfl (hp13.obj 0 rfl) (by rw [List.size_toArray, zs_len, hvl]; show 0 + tn * 1 < _; omega) (fun w14 hw14 => WL.nil ⟨trivial, ?_⟩)
              refine WH.done (by kernel_rfl) ?_
              exact ⟨(), ⟨rfl, rfl, rfl, rfl, rfl, rfl, rfl, rfl, rfl, rfl⟩, hfin w14 hw14⟩
            · refine WL.load rfl rfl rfl rfl rfl (by rw [show q * ti3.size = q from Nat.mul_one q]; exact hc9) (WL.nil ⟨trivial, ?_⟩)
              refine WH.one 5 rfl (by kernel_rfl) ?_
              refine WL.load rfl rfl rfl rfl rfl (by rw [show tn * ti3.size = tn from Nat.mul_one tn]; exact hc5) (WL.nil ⟨trivial, ?_⟩)
              refine WH.one 10 rfl (by kernel_rfl) ?_
              refine WL.callP rfl rfl rfl rfl rfl ent58 (hpl w13) (WL.nil ⟨trivial, ?_⟩)
              refine WH.ixS 11 (by kernel_rfl) rfl (by kernel_rfl) rfl rfl rfl rfl rfl rfl htn trivial ?_
              refine WH.one 12 rfl (by kernel_rfl) ?_
              refine WL.store rfl rfl rfl rfl rfl rfl (hp13.obj 0 rfl) (by rw [List.size_toArray, zs_len, hvl]; show 0 + tn * 1 < _; omega) (fun w14 hw14 => WL.nil ⟨trivial, ?_⟩)
              refine WH.done (by kernel_rfl) ?_
              exact ⟨(), ⟨rfl, rfl, rfl, rfl, rfl, rfl, rfl, rfl, rfl, rfl⟩, hfin w14 hw14⟩
          rintro ⟨⟩ e15 w15 hsub15 hp15
          refine WC.sub hsub15 ?_
          rw [hset] at hp15
          repeat (first | refine WC.seq ?_ | refine WC.reg ?_ | refine WL.pure rfl rfl rfl ?_ | refine WL.nil ?_ | refine WC.skip ?_ | refine WC.block ?_ | refine WC.condT rfl ?_ | refine WC.condF rfl ?_ | refine WL.off rfl rfl rfl ?_ | refine WL.off0 rfl rfl ?_ | refine WC.exit ?_ | refine blk_hit ?_ | refine blk_miss rfl ?_ | refine WC.ret ?_)
          exact ⟨c + 1, by omega, ⟨rfl, rfl, rfl, rfl, rfl, rfl, rfl, rfl, congrArg (fun z => some (Value.int .i64 z)) stepc, rfl⟩, by omega, hp15⟩
        · have h5 := of_decide_eq_false h5
          have hsame : (nxL L.length fun j => accS (ns.take q) (tab.take q) j + x * hits (row.take c) j) = nxL L.length fun j => accS (ns.take q) (tab.take q) j + x * hits (row.take (c + 1)) j := nxL_congr (fun j _ => by rw [hht j, if_neg (by omega), Nat.add_zero])
          rw [hsame] at hp12
          repeat (first | refine WC.seq ?_ | refine WC.reg ?_ | refine WL.pure rfl rfl rfl ?_ | refine WL.nil ?_ | refine WC.skip ?_ | refine WC.block ?_ | refine WC.condT rfl ?_ | refine WC.condF rfl ?_ | refine WL.off rfl rfl rfl ?_ | refine WL.off0 rfl rfl ?_ | refine WC.exit ?_ | refine blk_hit ?_ | refine blk_miss rfl ?_ | refine WC.ret ?_)
          exact ⟨c + 1, by omega, ⟨rfl, rfl, rfl, rfl, rfl, rfl, rfl, rfl, congrArg (fun z => some (Value.int .i64 z)) stepc, rfl⟩, by omega, hp12⟩
      · have hc : c = k := by have := of_decide_eq_false hc2; omega
        have hsame : (nxL L.length fun j => accS (ns.take q) (tab.take q) j + x * hits (row.take c) j) = nxL L.length fun j => accS (ns.take (q + 1)) (tab.take (q + 1)) j := nxL_congr (fun j _ => by rw [hat j, List.take_of_length_le (l := row) (by omega)])
        rw [hsame] at hp12
        repeat (first | refine WC.seq ?_ | refine WC.reg ?_ | refine WL.pure rfl rfl rfl ?_ | refine WL.nil ?_ | refine WC.skip ?_ | refine WC.block ?_ | refine WC.condT rfl ?_ | refine WC.condF rfl ?_ | refine WL.off rfl rfl rfl ?_ | refine WL.off0 rfl rfl ?_ | refine WC.exit ?_ | refine blk_hit ?_ | refine blk_miss rfl ?_ | refine WC.ret ?_)
        exact ⟨q + 1, by omega, ⟨rfl, rfl, rfl, rfl, rfl, rfl, rfl, congrArg (fun z => some (Value.int .i64 z)) stepq, rfl⟩, by omega, hp12⟩
    · have hq : q = L.length := by have := of_decide_eq_false hc1; omega
      have hsame : (nxL L.length fun j => accS (ns.take q) (tab.take q) j) = nowL l k L (t + 1) := by
        rw [← hacc]
        refine nxL_congr (fun j _ => ?_)
        rw [List.take_of_length_le (l := ns) (by omega), List.take_of_length_le (l := tab) (by omega)]
      rw [hsame] at hp11
      repeat (first | refine WC.seq ?_ | refine WC.reg ?_ | refine WL.pure rfl rfl rfl ?_ | refine WL.nil ?_ | refine WC.skip ?_ | refine WC.block ?_ | refine WC.condT rfl ?_ | refine WC.condF rfl ?_ | refine WL.off rfl rfl rfl ?_ | refine WL.off0 rfl rfl ?_ | refine WC.exit ?_ | refine blk_hit ?_ | refine blk_miss rfl ?_ | refine WC.ret ?_)
      refine ⟨(t + 1, bn, ra, rc1, out ++ [(NN l k t : Int)]), (by show n + 1 - (t + 1) < n + 1 - t; omega), ⟨rfl, rfl, rfl, rfl, rfl, congrArg (fun z => some (Value.int .i64 z)) stept, rfl⟩, by omega, fun j hj => ?_, hout2, hp11.drop1⟩
      rcases Nat.lt_or_ge j t with h | h
      · exact hNN j h
      · rw [show j = t by omega]; omega
  · have ht : t = n + 1 := by have := of_decide_eq_false hc; omega
    repeat (first | refine WC.seq ?_ | refine WC.reg ?_ | refine WL.pure rfl rfl rfl ?_ | refine WL.nil ?_ | refine WC.skip ?_ | refine WC.block ?_ | refine WC.condT rfl ?_ | refine WC.condF rfl ?_ | refine WL.off rfl rfl rfl ?_ | refine WL.off0 rfl rfl ?_ | refine WC.exit ?_ | refine blk_hit ?_ | refine blk_miss rfl ?_ | refine WC.ret ?_)
    refine Res.two rfl rfl rfl rfl ?_
    rw [countM_ok hd (fun j hj => hNN j (by omega)), ← ht, ← hout]
    exact ⟨pa, pc, rfl, (hp1.over hp6).pick [1] (by decide)⟩
end Go.Proofs.YtoghnhbjdnjghaaGreat
