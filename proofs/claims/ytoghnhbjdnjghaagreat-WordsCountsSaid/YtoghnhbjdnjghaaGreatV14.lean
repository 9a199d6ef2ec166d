/- The walk of tidying. -/
import Derived.Test.YtoghnhbjdnjghaaGreatV13
namespace Go.W
open Go.RowKit
theorem Hp.unrow0 {w0 w : World} {E s n : Nat} {v : Value} {xs : List Value} {L : List Ent} (h : Hp w0 w (.row E s v n xs :: L)) :
    (v = .slice none 0 0 ∧ n = 0) ∨ ∃ b cap cur, v = .slice (some ⟨b, 0, none⟩) n cap ∧ n ≤ cap ∧ cap ≤ maxLen ∧ cur.size = cap * s ∧ cur.toList.take (n * s) = xs ∧ Hp w0 w (.blk b (.cells cur E (0, 0)) :: L) := by
  have h1 := List.pairwise_cons.1 h.dist
  obtain ⟨hl, ⟨hv, h0⟩ | ⟨b, cap, cur, hv, hb, hg, hnc, hcm, hcs, ht⟩⟩ := h.sat (.row E s v n xs) (by simp)
  · exact .inl ⟨hv, h0⟩
  · refine .inr ⟨b, cap, cur, hv, hnc, hcm, hcs, ht, h.below, ?_, List.pairwise_cons.2 ⟨fun y hy k hk => h1.1 y hy k ?_, h1.2⟩⟩
    · intro x hx
      rcases List.mem_cons.1 hx with hx | hx
      · subst hx; exact ⟨hb, hg⟩
      · exact h.sat x (by simp [hx])
    · rw [hv]
      simp only [Ent.owns, Value.ownBlock] at hk ⊢
      rw [hk]
theorem yBuildA {P : Program} [T : TT P] {e : Env} {w : World} {ty t E : TypeId} {i : TI} {z : Value} {s0 b0 m : Nat} {parts : Array (Nat × Operand)} {ps : List (Nat × Value)} {cs : List Value} (ht : T.ti t = some ⟨.array m E, z, s0, b0⟩) (hi : T.ti E = some i)
    (hp : partsV e parts.toList = some ps) (hf : fillL (fun j => some (j * i.size, i.size)) z.cells.toList ps = some cs) : Yv P e (.build t parts) ty w (.agg cs.toArray) w := by
  have hu : P.underlying t = some (.array m E) := (T.ok t _ ht).k
  have hs := (T.ok E i hi).sizeOf w
  have hzv := (T.ok t _ ht).zeroValue w
  intro ρ hρ d' pos' aft' g'
  have hparts : (parts.map fun (x : Nat × Operand) => (x.1, ρ x.2)).toList = ps := by rw [Array.toList_map]; exact partsV_eq hρ _ _ hp
  have hfill := fill_eq (fun j => some (j * i.size, i.size)) ps z.cells cs hf
  rw [← hparts] at hfill
  simp only [execOp, Instr.build, Sem.run_bind, run_underlying hu, Result.andThen_ok, hs, hzv, hfill, Sem.run_pure]
end Go.W
namespace Go.Words
open Go.W Go.Sort Go.Proofs.YtoghnhbjdnjghaaGreat
theorem dirM_dn (a b : Str) : (dirM a b).2.length ≤ (dirM a b).1.length := by
  unfold dirM
  split
  · rename_i h; exact ordS_len h
  · rename_i h
    have n1 := ordS_neg a b
    rcases Int.lt_trichotomy (ordS b a) 0 with h1 | h1 | h1
    · exact ordS_len h1
    · rw [ordS_zero h1]; exact Nat.le_refl _
    · omega
theorem dirM_sm {n : Nat} {a b : Str} (ha : a.length ≤ n) (hb : b.length ≤ n) : (dirM a b).1.length ≤ n ∧ (dirM a b).2.length ≤ n := by
  unfold dirM
  split
  · exact ⟨hb, ha⟩
  · exact ⟨ha, hb⟩
theorem Dn.erase {l : List Rl} (h : Dn l) (i : Nat) : Dn (l.eraseIdx i) := fun r hr => h r (List.mem_of_mem_eraseIdx hr)
theorem Sm.erase {n : Nat} {l : List Rl} (h : Sm n l) (i : Nat) : Sm n (l.eraseIdx i) := fun r hr => h r (List.mem_of_mem_eraseIdx hr)
theorem Dn.put {l : List Rl} (h : Dn l) {r : Rl} (hr : r.2.length ≤ r.1.length) : Dn (putM l r) := fun y hy => by
  rcases mem_putM.1 hy with h1 | rfl
  · exact h y h1
  · exact hr
theorem Sm.put {n : Nat} {l : List Rl} (h : Sm n l) {r : Rl} (hr : r.1.length ≤ n ∧ r.2.length ≤ n) : Sm n (putM l r) := fun y hy => by
  rcases mem_putM.1 hy with h1 | rfl
  · exact h y h1
  · exact hr
theorem Qk.erase {l : List Rl} {x : Rl} (h : Qk l x) (i : Nat) : Qk (l.eraseIdx i) x := ⟨h.1, h.2.erase i⟩
theorem Qk.put {l : List Rl} {x r : Rl} (h : Qk l x ∧ (r ∈ l ∨ Kp r x)) : Qk (putM l r) x := by
  refine ⟨h.1.1, fun y hy hne => ?_⟩
  rcases mem_putM.1 hy with h1 | rfl
  · exact h.1.2 y h1 hne
  · rcases h.2 with h2 | h2
    · exact h.1.2 _ h2 hne
    · exact ⟨mis_of h2.1, mis_of h2.2⟩
theorem nextI_lt {l : List Rl} {i : Nat} (h : nextI l = some i) : i < l.length := List.mem_range.1 (List.mem_of_find?_eq_some h)
theorem srtM_len_le (l : List Rl) : (srtM l).length ≤ l.length := by
  have h : ∀ (l a : List Rl), (l.foldl putM a).length ≤ a.length + l.length := by
    intro l
    induction l with
    | nil => intro a; exact Nat.le_refl _
    | cons x l ih =>
      intro a
      have h1 := ih (putM a x)
      have h2 := putM_len a x
      show (l.foldl putM (putM a x)).length ≤ _
      rw [List.length_cons]
      omega
  have := h l []
  simpa [srtM] using this
end Go.Words
namespace Go.Proofs.YtoghnhbjdnjghaaGreat
open Go.W Go.Words Go.RowKit Go.Sort Go.Lib
set_option maxRecDepth 100000
attribute [local irreducible] WC WL WQ WS WH

theorem sortNil_any (w : World) : Ret Tryz.prog 73 [.slice none 0 0, .func (.func 74) #[] #[]] w fun _ w' => w' = w := by
  have hins : ∀ w, Ret Tryz.prog 104 [.slice none 0 0, .int .i64 (0 : Nat), .int .i64 (0 : Nat), .func (.func 74) #[] #[]] w fun _ w' => w' = w := by
    intro w
    refine enter Tryz.func104 rfl rfl ⟨rfl, rfl⟩ rfl ?_
    repeat (first | refine WC.seq ?_ | refine WC.reg ?_ | refine WL.pure rfl rfl rfl ?_ | refine WL.nil ?_ | refine WC.skip ?_ | refine WC.block ?_ | refine WC.condT rfl ?_ | refine WC.condF rfl ?_ | refine WL.off rfl rfl rfl ?_ | refine WL.off0 rfl rfl ?_ | refine WC.exit ?_ | refine blk_hit ?_ | refine blk_miss rfl ?_ | refine WC.ret ?_)
    refine WC.loop Unit (fun _ => [(2, .int .i64 (0 : Nat)), (8, .int .i64 (1 : Nat))]) (fun _ w' => w' = w) (fun _ => 0) () ⟨rfl, rfl, rfl⟩ rfl ?_
    rintro ⟨⟩ w1 rfl
    repeat (first | refine WC.seq ?_ | refine WC.reg ?_ | refine WL.pure rfl rfl rfl ?_ | refine WL.nil ?_ | refine WC.skip ?_ | refine WC.block ?_ | refine WC.condT rfl ?_ | refine WC.condF rfl ?_ | refine WL.off rfl rfl rfl ?_ | refine WL.off0 rfl rfl ?_ | refine WC.exit ?_ | refine blk_hit ?_ | refine blk_miss rfl ?_ | refine WC.ret ?_)
    exact Res.zero rfl rfl rfl
  have hpdq : ∀ w lim, Ret Tryz.prog 92 [.slice none 0 0, .int .i64 (0 : Nat), .int .i64 (0 : Nat), .int .i64 lim, .func (.func 74) #[] #[]] w fun _ w' => w' = w := by
    intro w lim
    refine enter Tryz.func92 rfl rfl ⟨rfl, rfl⟩ rfl ?_
    repeat (first | refine WC.seq ?_ | refine WC.reg ?_ | refine WL.pure rfl rfl rfl ?_ | refine WL.nil ?_ | refine WC.skip ?_ | refine WC.block ?_ | refine WC.condT rfl ?_ | refine WC.condF rfl ?_ | refine WL.off rfl rfl rfl ?_ | refine WL.off0 rfl rfl ?_ | refine WC.exit ?_ | refine blk_hit ?_ | refine blk_miss rfl ?_ | refine WC.ret ?_)
    refine WC.loop Unit (fun _ => [(0, .slice none 0 0), (1, .int .i64 (0 : Nat)), (2, .int .i64 (0 : Nat)), (4, .func (.func 74) #[] #[])]) (fun _ w' => w' = w) (fun _ => 0) () ⟨rfl, rfl, rfl, rfl, rfl⟩ rfl ?_
    rintro ⟨⟩ w1 rfl
    repeat (first | refine WC.seq ?_ | refine WC.reg ?_ | refine WL.pure rfl rfl rfl ?_ | refine WL.nil ?_ | refine WC.skip ?_ | refine WC.block ?_ | refine WC.condT rfl ?_ | refine WC.condF rfl ?_ | refine WL.off rfl rfl rfl ?_ | refine WL.off0 rfl rfl ?_ | refine WC.exit ?_ | refine blk_hit ?_ | refine blk_miss rfl ?_ | refine WC.ret ?_)
    refine WL.call rfl rfl rfl rfl rfl ent104 (hins w1) ?_
    rintro _ w2 rfl
    repeat (first | refine WC.seq ?_ | refine WC.reg ?_ | refine WL.pure rfl rfl rfl ?_ | refine WL.nil ?_ | refine WC.skip ?_ | refine WC.block ?_ | refine WC.condT rfl ?_ | refine WC.condF rfl ?_ | refine WL.off rfl rfl rfl ?_ | refine WL.off0 rfl rfl ?_ | refine WC.exit ?_ | refine blk_hit ?_ | refine blk_miss rfl ?_ | refine WC.ret ?_)
    exact Res.zero rfl rfl rfl
  refine enter Tryz.func73 rfl rfl ⟨rfl, rfl⟩ rfl ?_
  repeat (first | refine WC.seq ?_ | refine WC.reg ?_ | refine WL.pure rfl rfl rfl ?_ | refine WL.nil ?_ | refine WC.skip ?_ | refine WC.block ?_ | refine WC.condT rfl ?_ | refine WC.condF rfl ?_ | refine WL.off rfl rfl rfl ?_ | refine WL.off0 rfl rfl ?_ | refine WC.exit ?_ | refine blk_hit ?_ | refine blk_miss rfl ?_ | refine WC.ret ?_)
  refine WL.call rfl rfl rfl rfl rfl ent93 (Len_any 0 (by omega) w) ?_
  rintro _ w1 ⟨⟨m, rfl, -⟩, rfl⟩
  repeat (first | refine WC.seq ?_ | refine WC.reg ?_ | refine WL.pure rfl rfl rfl ?_ | refine WL.nil ?_ | refine WC.skip ?_ | refine WC.block ?_ | refine WC.condT rfl ?_ | refine WC.condF rfl ?_ | refine WL.off rfl rfl rfl ?_ | refine WL.off0 rfl rfl ?_ | refine WC.exit ?_ | refine blk_hit ?_ | refine blk_miss rfl ?_ | refine WC.ret ?_)
  refine WL.call rfl rfl rfl rfl rfl ent92 (hpdq w1 m) ?_
  rintro _ w2 rfl
  repeat (first | refine WC.seq ?_ | refine WC.reg ?_ | refine WL.pure rfl rfl rfl ?_ | refine WL.nil ?_ | refine WC.skip ?_ | refine WC.block ?_ | refine WC.condT rfl ?_ | refine WC.condF rfl ?_ | refine WL.off rfl rfl rfl ?_ | refine WL.off0 rfl rfl ?_ | refine WC.exit ?_ | refine blk_hit ?_ | refine blk_miss rfl ?_ | refine WC.ret ?_)
  exact Res.zero rfl rfl rfl
theorem cl_of {l : List Rl} {cur : Array Value} (h : cur.toList.take (l.length * 2) = rcs l) : cur = cl l.toArray (cur.toList.drop (l.length * 2)) := by
  unfold cl
  rw [← Array.toList_inj]
  show cur.toList = rcs l ++ cur.toList.drop (l.length * 2)
  rw [← h, List.take_append_drop]
theorem Sort_row (v : Value) (l : List Rl) (hl : l.length ≤ 500) (w0 : World) (L : List Ent) (w : World) (hp : Hp w0 w (Rt v l :: L)) :
    Ret Tryz.prog 73 [v, .func (.func 74) #[] #[]] w fun _ w' => ∃ d : Array Rp, d.size = l.length ∧ PermIn 0 l.length l.toArray d ∧ SortedIn (ltO ordR) 0 l.length d ∧ Hp w0 w' (Rt v d.toList :: L) := by
  rcases hp.unrow0 with ⟨rfl, h0⟩ | ⟨b, cap, cur, rfl, hnc, hcm, hcs, hct, hpb⟩
  · have h0 : l = [] := List.eq_nil_of_length_eq_zero h0
    subst h0
    refine (sortNil_any w).mono ?_
    rintro _ w' rfl
    exact ⟨#[], rfl, ⟨rfl, fun _ _ => rfl, List.Perm.refl _⟩, fun i j _ _ h => absurd h (Nat.not_lt_zero j), hp⟩
  · rw [cl_of hct] at hpb
    have hsz : l.length * 2 + (cur.toList.drop (l.length * 2)).length = cap * 2 := by
      have : l.length * 2 ≤ cap * 2 := by omega
      have h9 : cur.toList.length = cap * 2 := hcs
      rw [List.length_drop, h9]
      omega
    generalize cur.toList.drop (l.length * 2) = t at hpb hsz
    refine (SortFunc_any b l.length cap t 74 #[] ordR ent74 (fun _ => True) w0 L (fun x y d w' _ _ _ => byLeft_any x y w') hl ordR_swo l.toArray ⟨by simp, fun _ _ => trivial⟩ w hpb).mono ?_
    rintro _ w' ⟨d, hd, h1, h2, h3⟩
    refine ⟨d, hd.sz, h1, h2, ?_⟩
    have h4 := h3.rowN (s := 2) (n := l.length) (cap := cap) (by rw [cl_size, hd.sz]; exact hsz) hnc hcm
    have e1 : (cl d t).toList.take (l.length * 2) = rcs d.toList := by
      unfold cl
      rw [List.toList_toArray, List.take_left' (by rw [rcs_len, Array.length_toList, hd.sz])]
    rw [e1] at h4
    have hdl : d.toList.length = l.length := (Array.length_toList).trans hd.sz
    unfold Rt
    rw [hdl]
    exact h4
theorem Compact_row (v : Value) (d : Array Rp) (hl : d.size ≤ 1000000) (w0 : World) (L : List Ent) (w : World) (hp : Hp w0 w (Rt v d.toList :: L)) :
    Ret Tryz.prog 75 [v] w fun u w' => ∃ pa pc, u = .slice pa (compactUpTo d d.size).length pc ∧ Hp w0 w' (Rt u (compactUpTo d d.size) :: L) := by
  rcases hp.unrow0 with ⟨rfl, h0⟩ | ⟨b, cap, cur, rfl, hnc, hcm, hcs, hct, hpb⟩
  · have h0 : d = #[] := by
      rw [Array.length_toList] at h0
      exact Array.eq_empty_of_size_eq_zero h0
    subst h0
    refine enter Tryz.func75 rfl rfl ⟨rfl, rfl⟩ rfl ?_
    repeat (first | refine WC.seq ?_ | refine WC.reg ?_ | refine WL.pure rfl rfl rfl ?_ | refine WL.nil ?_ | refine WC.skip ?_ | refine WC.block ?_ | refine WC.condT rfl ?_ | refine WC.condF rfl ?_ | refine WL.off rfl rfl rfl ?_ | refine WL.off0 rfl rfl ?_ | refine WC.exit ?_ | refine blk_hit ?_ | refine blk_miss rfl ?_ | refine WC.ret ?_)
    exact Res.one rfl rfl rfl ⟨none, 0, rfl, hp⟩
  · rw [cl_of hct] at hpb
    have hdl : d.toList.length = d.size := Array.length_toList
    have hsz : d.size * 2 + (cur.toList.drop (d.toList.length * 2)).length = cap * 2 := by
      have : d.toList.length * 2 ≤ cap * 2 := by omega
      have h9 : cur.toList.length = cap * 2 := hcs
      rw [List.length_drop, h9]
      omega
    generalize cur.toList.drop (d.toList.length * 2) = t at hpb hsz
    rw [Array.toArray_toList] at hpb
    rw [hdl]
    refine (Compact_any b d.size cap t d rfl hl (by omega) w0 L w hpb).mono ?_
    rintro _ w' ⟨t', rfl, h1, h2⟩
    refine ⟨_, _, rfl, ?_⟩
    have h4 := h2.rowN (s := 2) (n := (compactUpTo d d.size).length) (cap := cap) (by rw [cl_size, List.size_toArray]; omega) (by omega) hcm
    have e1 : (cl (compactUpTo d d.size).toArray t').toList.take ((compactUpTo d d.size).length * 2) = rcs (compactUpTo d d.size) := by
      unfold cl
      rw [List.toList_toArray, List.take_left' (by rw [rcs_len])]
    rw [e1] at h4
    exact h4
/-- What tidying hands back. -/
def TidyP (o : Option (List Rl)) (w : World) (u : Value) (w' : World) : Prop := match o with
  | some t => ∃ pa pc, u = .tuple #[.slice pa t.length pc, .bool true] ∧ Hp w w' [Rt (.slice pa t.length pc) t]
  | none => u = .tuple #[.slice none 0 0, .bool false] ∧ Hp w w' []
theorem tidyN_none {k : Nat} {l : List Rl} (h : nextI l = none) : tidyN k l = some l := by
  cases k <;> (unfold tidyN; rw [h])
theorem tidyN_out {l : List Rl} {i : Nat} (h : nextI l = some i) : tidyN 0 l = none := by
  unfold tidyN; rw [h]
theorem tidyN_go {k : Nat} {l : List Rl} {i : Nat} (h : nextI l = some i) (hi : i < l.length) : tidyN (k + 1) l = match formsM (l.eraseIdx i) l[i] with
      | none => none
      | some q => tidyN k (if q.1 = q.2 then l.eraseIdx i else putM (l.eraseIdx i) (dirM q.1 q.2)) := by
  rw [← getD_get hi]
  conv => lhs; unfold tidyN
  rw [h]
  rfl
set_option maxHeartbeats 1000000 in
theorem tidy_any (a : Option Addr) (cap : Nat) (l : List Rl) (hl : l.length ≤ 500) (hd : Dn l) (hm : Sm 1000 l) (w : World) (hmx : Mx w) (hs : Sl w a (rcs l)) :
    Ret Tryz.prog 47 [.slice a l.length cap] w (TidyP (tidyM l) w) := by
  refine enter Tryz.func47 rfl rfl ⟨rfl, rfl⟩ rfl ?_
  repeat (first | refine WC.seq ?_ | refine WC.reg ?_ | refine WL.pure rfl rfl rfl ?_ | refine WL.nil ?_ | refine WC.skip ?_ | refine WC.block ?_ | refine WC.condT rfl ?_ | refine WC.condF rfl ?_ | refine WL.off rfl rfl rfl ?_ | refine WL.off0 rfl rfl ?_ | refine WC.exit ?_ | refine blk_hit ?_ | refine blk_miss rfl ?_ | refine WC.ret ?_)
  refine WL.call rfl rfl rfl rfl rfl ent72 (Clone_any a cap l (by omega) w hs) ?_
  rintro _ w1 ⟨pa, pc, rfl, hp1⟩
  repeat (first | refine WC.seq ?_ | refine WC.reg ?_ | refine WL.pure rfl rfl rfl ?_ | refine WL.nil ?_ | refine WC.skip ?_ | refine WC.block ?_ | refine WC.condT rfl ?_ | refine WC.condF rfl ?_ | refine WL.off rfl rfl rfl ?_ | refine WL.off0 rfl rfl ?_ | refine WC.exit ?_ | refine blk_hit ?_ | refine blk_miss rfl ?_ | refine WC.ret ?_)
  refine WL.makeMap rfl rfl ?_
  intro mb w2 hb2
  have hp2 := hp1.new hb2
  refine WL.buildT (cs := [.slice pa l.length pc, .map (some mb)]) rfl rfl rfl rfl rfl rfl ?_
  refine WL.box rfl rfl rfl ?_
  intro tb w3 hb3
  have hp3 : Hp w w3 [Td tb (.slice pa l.length pc) (.map (some mb)), Mp mb #[] 0, Rt (.slice pa l.length pc) l] := hp2.new hb3
  have hp3 : Hp w w3 [Td tb (.slice pa l.length pc) (.map (some mb)), Rt (.slice pa l.length pc) l, Mp mb #[] 0] := hp3.pick [0, 2, 1] (by decide)
  repeat (first | refine WC.seq ?_ | refine WC.reg ?_ | refine WL.pure rfl rfl rfl ?_ | refine WL.nil ?_ | refine WC.skip ?_ | refine WC.block ?_ | refine WC.condT rfl ?_ | refine WC.condF rfl ?_ | refine WL.off rfl rfl rfl ?_ | refine WL.off0 rfl rfl ?_ | refine WC.exit ?_ | refine blk_hit ?_ | refine blk_miss rfl ?_ | refine WC.ret ?_)
  refine WL.nilC rfl rfl rfl ?_
  repeat (first | refine WC.seq ?_ | refine WC.reg ?_ | refine WL.pure rfl rfl rfl ?_ | refine WL.nil ?_ | refine WC.skip ?_ | refine WC.block ?_ | refine WC.condT rfl ?_ | refine WC.condF rfl ?_ | refine WL.off rfl rfl rfl ?_ | refine WL.off0 rfl rfl ?_ | refine WC.exit ?_ | refine blk_hit ?_ | refine blk_miss rfl ?_ | refine WC.ret ?_)
  refine WL.loadB rfl rfl rfl rfl rfl (hp3.obj 0 rfl) (j := 0) rfl ?_
  refine WL.call rfl rfl rfl rfl rfl ent73 (Sort_row _ l hl w _ w3 (hp3.pick [1, 0, 2] (by decide))) ?_
  rintro _ w4 ⟨d, hdz, hP, hS, hp4⟩
  have hcs := compact_srt (l := l) rfl (by simp) hP hS
  have hdl : d.toList.length = l.length := (Array.length_toList).trans hdz
  have hcr := Compact_row (.slice pa l.length pc) d (by omega) w _ w4 hp4
  rw [hdz, hcs] at hcr
  repeat (first | refine WC.seq ?_ | refine WC.reg ?_ | refine WL.pure rfl rfl rfl ?_ | refine WL.nil ?_ | refine WC.skip ?_ | refine WC.block ?_ | refine WC.condT rfl ?_ | refine WC.condF rfl ?_ | refine WL.off rfl rfl rfl ?_ | refine WL.off0 rfl rfl ?_ | refine WC.exit ?_ | refine blk_hit ?_ | refine blk_miss rfl ?_ | refine WC.ret ?_)
  refine WL.nilC rfl rfl rfl ?_
  repeat (first | refine WC.seq ?_ | refine WC.reg ?_ | refine WL.pure rfl rfl rfl ?_ | refine WL.nil ?_ | refine WC.skip ?_ | refine WC.block ?_ | refine WC.condT rfl ?_ | refine WC.condF rfl ?_ | refine WL.off rfl rfl rfl ?_ | refine WL.off0 rfl rfl ?_ | refine WC.exit ?_ | refine blk_hit ?_ | refine blk_miss rfl ?_ | refine WC.ret ?_)
  refine WL.loadB rfl rfl rfl rfl rfl (hp4.obj 1 rfl) (j := 0) rfl ?_
  refine WL.call rfl rfl rfl rfl rfl ent75 hcr ?_
  rintro _ w5 ⟨qa, qc, rfl, hp5⟩
  repeat (first | refine WC.seq ?_ | refine WC.reg ?_ | refine WL.pure rfl rfl rfl ?_ | refine WL.nil ?_ | refine WC.skip ?_ | refine WC.block ?_ | refine WC.condT rfl ?_ | refine WC.condF rfl ?_ | refine WL.off rfl rfl rfl ?_ | refine WL.off0 rfl rfl ?_ | refine WC.exit ?_ | refine blk_hit ?_ | refine blk_miss rfl ?_ | refine WC.ret ?_)
  refine WL.nilC rfl rfl rfl ?_
  repeat (first | refine WC.seq ?_ | refine WC.reg ?_ | refine WL.pure rfl rfl rfl ?_ | refine WL.nil ?_ | refine WC.skip ?_ | refine WC.block ?_ | refine WC.condT rfl ?_ | refine WC.condF rfl ?_ | refine WL.off rfl rfl rfl ?_ | refine WL.off0 rfl rfl ?_ | refine WC.exit ?_ | refine blk_hit ?_ | refine blk_miss rfl ?_ | refine WC.ret ?_)
  refine WL.store rfl rfl rfl rfl rfl rfl (hp5.obj 1 rfl) (by show 0 < 2; omega) (fun w6 hw6 => ?_)
  have hp6 : Hp w w6 [Rt (.slice qa (srtM l).length qc) (srtM l), Td tb (.slice qa (srtM l).length qc) (.map (some mb)), Mp mb #[] 0] := hp5.set 1 rfl rfl hw6
  have hp6 : Hp w w6 [Td tb (.slice qa (srtM l).length qc) (.map (some mb)), Rt (.slice qa (srtM l).length qc) (srtM l), Mp mb #[] 0] := hp6.pick [1, 0, 2] (by decide)
  clear hp5 hcr hp4 hw6 hb3 hb2
  repeat (first | refine WC.seq ?_ | refine WC.reg ?_ | refine WL.pure rfl rfl rfl ?_ | refine WL.nil ?_ | refine WC.skip ?_ | refine WC.block ?_ | refine WC.condT rfl ?_ | refine WC.condF rfl ?_ | refine WL.off rfl rfl rfl ?_ | refine WL.off0 rfl rfl ?_ | refine WC.exit ?_ | refine blk_hit ?_ | refine blk_miss rfl ?_ | refine WC.ret ?_)
  refine WC.loop (Nat × Value × List Rl × Array MapEntry × Nat) (fun (n, _) => [(4, .pointer (some ⟨tb, 0, none⟩)), (5, .int .i64 (n : Nat))])
    (fun (n, v, l', es, c) w' => n ≤ 2000 ∧ Ss l' ∧ Dn l' ∧ Sm 1000 l' ∧ l'.length ≤ 500 ∧ tidyM l = tidyN (2000 - n) l' ∧ KM (Qk l') es c ∧ Hp w w' [Td tb v (.map (some mb)), Rt v l', Mp mb es c]) (fun (n, _) => 2000 - n)
    (0, .slice qa (srtM l).length qc, srtM l, #[], 0) ⟨rfl, rfl, rfl⟩ ⟨Nat.zero_le _, srtM_ss l, fun r hr => hd r (mem_srtM.1 hr), fun r hr => hm r (mem_srtM.1 hr), Nat.le_trans (srtM_len_le l) hl, rfl, KM.none _ _, hp6⟩ ?_
  clear hp6
  rintro ⟨n, v, l', es, c⟩ w1 ⟨hn, hss, hdn, hsm, hll, hT, hK, hp1⟩
  repeat (first | refine WC.seq ?_ | refine WC.reg ?_ | refine WL.pure rfl rfl rfl ?_ | refine WL.nil ?_ | refine WC.skip ?_ | refine WC.block ?_ | refine WC.condT rfl ?_ | refine WC.condF rfl ?_ | refine WL.off rfl rfl rfl ?_ | refine WL.off0 rfl rfl ?_ | refine WC.exit ?_ | refine blk_hit ?_ | refine blk_miss rfl ?_ | refine WC.ret ?_)
  refine WL.call rfl rfl rfl rfl rfl ent76 (next_any tb mb v l' es c (by omega) hss.nodup (hsm.mono (by omega)) hK w w1 hp1) ?_
  rintro _ w2 ⟨rfl, es2, c2, hp2, hK2⟩
  obtain ⟨va, vc, rfl⟩ := owns_shape (hp2.at 1 rfl)
  clear hp1 hK
  repeat (first | refine WC.seq ?_ | refine WC.reg ?_ | refine WL.pure rfl rfl rfl ?_ | refine WL.nil ?_ | refine WC.skip ?_ | refine WC.block ?_ | refine WC.condT rfl ?_ | refine WC.condF rfl ?_ | refine WL.off rfl rfl rfl ?_ | refine WL.off0 rfl rfl ?_ | refine WC.exit ?_ | refine blk_hit ?_ | refine blk_miss rfl ?_ | refine WC.ret ?_)
  cases hni : nextI l' with
  | none =>
    have hv : nextV l' = -1 := by unfold nextV; rw [hni]
    rw [hv]
    repeat (first | refine WC.seq ?_ | refine WC.reg ?_ | refine WL.pure rfl rfl rfl ?_ | refine WL.nil ?_ | refine WC.skip ?_ | refine WC.block ?_ | refine WC.condT rfl ?_ | refine WC.condF rfl ?_ | refine WL.off rfl rfl rfl ?_ | refine WL.off0 rfl rfl ?_ | refine WC.exit ?_ | refine blk_hit ?_ | refine blk_miss rfl ?_ | refine WC.ret ?_)
    refine WL.nilC rfl rfl rfl ?_
    repeat (first | refine WC.seq ?_ | refine WC.reg ?_ | refine WL.pure rfl rfl rfl ?_ | refine WL.nil ?_ | refine WC.skip ?_ | refine WC.block ?_ | refine WC.condT rfl ?_ | refine WC.condF rfl ?_ | refine WL.off rfl rfl rfl ?_ | refine WL.off0 rfl rfl ?_ | refine WC.exit ?_ | refine blk_hit ?_ | refine blk_miss rfl ?_ | refine WC.ret ?_)
    refine WL.loadB rfl rfl rfl rfl rfl (hp2.obj 0 rfl) (j := 0) rfl ?_
    repeat (first | refine WC.seq ?_ | refine WC.reg ?_ | refine WL.pure rfl rfl rfl ?_ | refine WL.nil ?_ | refine WC.skip ?_ | refine WC.block ?_ | refine WC.condT rfl ?_ | refine WC.condF rfl ?_ | refine WL.off rfl rfl rfl ?_ | refine WL.off0 rfl rfl ?_ | refine WC.exit ?_ | refine blk_hit ?_ | refine blk_miss rfl ?_ | refine WC.ret ?_)
    refine Res.two rfl rfl rfl rfl ?_
    rw [hT, tidyN_none hni]
    exact ⟨va, vc, rfl, hp2.tail.drop1⟩
  | some i =>
    have hil := nextI_lt hni
    have hv : nextV l' = ((i : Nat) : Int) := by unfold nextV; rw [hni]
    rw [hv]
    repeat (first | refine WC.seq ?_ | refine WC.reg ?_ | refine WL.pure rfl rfl rfl ?_ | refine WL.nil ?_ | refine WC.skip ?_ | refine WC.block ?_ | refine WC.condT rfl ?_ | refine WC.condF rfl ?_ | refine WL.off rfl rfl rfl ?_ | refine WL.off0 rfl rfl ?_ | refine WC.exit ?_ | refine blk_hit ?_ | refine blk_miss rfl ?_ | refine WC.ret ?_)
    refine WC.cond rfl (fun hc => ?_) (fun hc => ?_)
    · have hn2 : n = 2000 := by have := eq_of_beq hc; omega
      subst hn2
      repeat (first | refine WC.seq ?_ | refine WC.reg ?_ | refine WL.pure rfl rfl rfl ?_ | refine WL.nil ?_ | refine WC.skip ?_ | refine WC.block ?_ | refine WC.condT rfl ?_ | refine WC.condF rfl ?_ | refine WL.off rfl rfl rfl ?_ | refine WL.off0 rfl rfl ?_ | refine WC.exit ?_ | refine blk_hit ?_ | refine blk_miss rfl ?_ | refine WC.ret ?_)
      refine Res.two rfl rfl rfl rfl ?_
      rw [hT, Nat.sub_self, tidyN_out hni]
      exact ⟨rfl, hp2.nil'⟩
    · have hn2 : n < 2000 := by
        have : ¬ ((n : Int) = 2000) := fun h => by rw [h] at hc; exact absurd hc (by decide)
        omega
      have hcap : l'.length ≤ vc := by
        obtain ⟨_, ⟨hv, h0⟩ | ⟨b, cap, cur, hv, _, _, hnc, _⟩⟩ := hp2.at 1 rfl
        · simp only [Value.slice.injEq] at hv; omega
        · simp only [Value.slice.injEq] at hv; omega
      have step := wrap_succ hn2 (by omega)
      obtain ⟨k, hk⟩ : ∃ k, 2000 - n = k + 1 := ⟨2000 - n - 1, by omega⟩
      have hk2 : 2000 - (n + 1) = k := by omega
      rw [hk, tidyN_go hni hil] at hT
      have hsz := hsm.at_ hil
      have hel : (l'.eraseIdx i).length + 1 = l'.length := by rw [List.length_eraseIdx_of_lt hil]; omega
      have hdn' := hdn.erase i
      have hsm' := hsm.erase i
      have hss' := hss.erase i
      have hK' : KM (Qk (l'.eraseIdx i)) es2 c2 := hK2.mono fun e _ x _ hq => Go.Words.Qk.erase hq i
      repeat (first | refine WC.seq ?_ | refine WC.reg ?_ | refine WL.pure rfl rfl rfl ?_ | refine WL.nil ?_ | refine WC.skip ?_ | refine WC.block ?_ | refine WC.condT rfl ?_ | refine WC.condF rfl ?_ | refine WL.off rfl rfl rfl ?_ | refine WL.off0 rfl rfl ?_ | refine WC.exit ?_ | refine blk_hit ?_ | refine blk_miss rfl ?_ | refine WC.ret ?_)
      refine WL.nilC rfl rfl rfl ?_
      repeat (first | refine WC.seq ?_ | refine WC.reg ?_ | refine WL.pure rfl rfl rfl ?_ | refine WL.nil ?_ | refine WC.skip ?_ | refine WC.block ?_ | refine WC.condT rfl ?_ | refine WC.condF rfl ?_ | refine WL.off rfl rfl rfl ?_ | refine WL.off0 rfl rfl ?_ | refine WC.exit ?_ | refine blk_hit ?_ | refine blk_miss rfl ?_ | refine WC.ret ?_)
      refine WL.loadB rfl rfl rfl rfl rfl (hp2.obj 0 rfl) (j := 0) rfl ?_
      repeat (first | refine WC.seq ?_ | refine WC.reg ?_ | refine WL.pure rfl rfl rfl ?_ | refine WL.nil ?_ | refine WC.skip ?_ | refine WC.block ?_ | refine WC.condT rfl ?_ | refine WC.condF rfl ?_ | refine WL.off rfl rfl rfl ?_ | refine WL.off0 rfl rfl ?_ | refine WC.exit ?_ | refine blk_hit ?_ | refine blk_miss rfl ?_ | refine WC.ret ?_)
      refine WL.ixload2 rfl (fun _ => rfl) rfl rfl rfl rfl rfl rfl rfl hil rfl rfl (Sl.of_row (hp2.at 1 rfl)) hil ?_
      intro pp
      refine WL.alloc rfl rfl rfl ?_
      intro b7 w3 hb7
      have hp3 := hp2.new hb7
      repeat (first | refine WC.seq ?_ | refine WC.reg ?_ | refine WL.pure rfl rfl rfl ?_ | refine WL.nil ?_ | refine WC.skip ?_ | refine WC.block ?_ | refine WC.condT rfl ?_ | refine WC.condF rfl ?_ | refine WL.off rfl rfl rfl ?_ | refine WL.off0 rfl rfl ?_ | refine WC.exit ?_ | refine blk_hit ?_ | refine blk_miss rfl ?_ | refine WC.ret ?_)
      refine WL.storeN (vs := (rc l'[i]).toArray) (arr2 := (rc l'[i]).toArray) rfl rfl rfl rfl rfl (rc_one _) (hp3.obj 0 rfl) (Nat.le_refl 2) rfl (fun w4 hw4 => ?_)
      have hp4 : Hp w w4 [Bx b7 l'[i], Td tb (.slice va l'.length vc) (.map (some mb)), Rt (.slice va l'.length vc) l', Mp mb es2 c2] := hp3.set 0 rfl rfl hw4
      repeat (first | refine WC.seq ?_ | refine WC.reg ?_ | refine WL.pure rfl rfl rfl ?_ | refine WL.nil ?_ | refine WC.skip ?_ | refine WC.block ?_ | refine WC.condT rfl ?_ | refine WC.condF rfl ?_ | refine WL.off rfl rfl rfl ?_ | refine WL.off0 rfl rfl ?_ | refine WC.exit ?_ | refine blk_hit ?_ | refine blk_miss rfl ?_ | refine WC.ret ?_)
      refine WL.call rfl rfl rfl rfl rfl ent77 (without_any tb va vc l' (.map (some mb)) i hil (by omega) hcap w4 (hp4.obj 1 rfl) (Sl.of_row (hp4.at 2 rfl))) ?_
      rintro _ w5 ⟨oa, oc, rfl, hp5⟩
      have hp5 := hp4.comb hp5
      repeat (first | refine WC.seq ?_ | refine WC.reg ?_ | refine WL.pure rfl rfl rfl ?_ | refine WL.nil ?_ | refine WC.skip ?_ | refine WC.block ?_ | refine WC.condT rfl ?_ | refine WC.condF rfl ?_ | refine WL.off rfl rfl rfl ?_ | refine WL.off0 rfl rfl ?_ | refine WC.exit ?_ | refine blk_hit ?_ | refine blk_miss rfl ?_ | refine WC.ret ?_)
      refine WL.nilC rfl rfl rfl ?_
      repeat (first | refine WC.seq ?_ | refine WC.reg ?_ | refine WL.pure rfl rfl rfl ?_ | refine WL.nil ?_ | refine WC.skip ?_ | refine WC.block ?_ | refine WC.condT rfl ?_ | refine WC.condF rfl ?_ | refine WL.off rfl rfl rfl ?_ | refine WL.off0 rfl rfl ?_ | refine WC.exit ?_ | refine blk_hit ?_ | refine blk_miss rfl ?_ | refine WC.ret ?_)
      refine WL.store rfl rfl rfl rfl rfl rfl (hp5.obj 2 rfl) (by show 0 < 2; omega) (fun w6 hw6 => ?_)
      have hp6 := hp5.set 2 rfl rfl hw6
      have hp6 : Hp w w6 [Bx b7 l'[i], Td tb (.slice oa (l'.eraseIdx i).length oc) (.map (some mb)), Rt (.slice oa (l'.eraseIdx i).length oc) (l'.eraseIdx i), Mp mb es2 c2] := hp6.pick [1, 2, 0, 4] (by decide)
      clear hp5 hp4 hp3 hp2 hw6 hw4 hb7
      generalize hL : l'.eraseIdx i = L2 at *
      generalize hr : l'[i] = r at *
      repeat (first | refine WC.seq ?_ | refine WC.reg ?_ | refine WL.pure rfl rfl rfl ?_ | refine WL.nil ?_ | refine WC.skip ?_ | refine WC.block ?_ | refine WC.condT rfl ?_ | refine WC.condF rfl ?_ | refine WL.off rfl rfl rfl ?_ | refine WL.off0 rfl rfl ?_ | refine WC.exit ?_ | refine blk_hit ?_ | refine blk_miss rfl ?_ | refine WC.ret ?_)
      have hfq : ∀ w', Hp w w' [Bx b7 r, Td tb (.slice oa L2.length oc) (.map (some mb)), Rt (.slice oa L2.length oc) L2, Mp mb es2 c2] →
          Ret Tryz.prog 52 [.slice oa L2.length oc, .agg #[st r.1, st r.2]] w' fun u w'' => u = formsV L2 r ∧ Hp w w'' [Bx b7 r, Td tb (.slice oa L2.length oc) (.map (some mb)), Rt (.slice oa L2.length oc) L2, Mp mb es2 c2] := fun w' hw' =>
        (forms_any oa oc L2 r (by omega) hdn' ⟨by omega, by omega⟩ (hsm'.mono (by omega)) w' (Sl.of_row (hw'.at 2 rfl))).mono fun u w'' ⟨h1, h2⟩ => ⟨h1, by have := hw'.comb h2; rwa [List.nil_append] at this⟩
      refine WC.mid Unit (fun _ => [(4, .pointer (some ⟨tb, 0, none⟩)), (5, .int .i64 (n : Nat)), (8, st (nrS L2 r.1)), (9, st (nrS L2 r.2)), (10, .bool (formsM L2 r).isSome)])
        (fun _ w' => Hp w w' [Bx b7 r, Td tb (.slice oa L2.length oc) (.map (some mb)), Rt (.slice oa L2.length oc) L2, Mp mb es2 c2]) ?_ ?_
      · refine WC.regQ (fun w' => Hp w w' [Bx b7 r, Td tb (.slice oa L2.length oc) (.map (some mb)), Rt (.slice oa L2.length oc) L2, Mp mb es2 c2]) mixed (by kernel_rfl) (fun w' hw' => hp6.keep hw') ?_
        repeat (first | refine WQ.pure rfl rfl rfl ?_ | refine WQ.off rfl rfl rfl ?_ | refine WQ.nil ?_)
        refine WQ.nilC rfl rfl rfl ?_
        repeat (first | refine WQ.pure rfl rfl rfl ?_ | refine WQ.off rfl rfl rfl ?_ | refine WQ.nil ?_)
        refine WQ.load rfl rfl rfl rfl rfl (fun w' hw' => cell_of_obj (j := 0) (hw'.obj 1 rfl) rfl) ?_
        repeat (first | refine WQ.pure rfl rfl rfl ?_ | refine WQ.off rfl rfl rfl ?_ | refine WQ.nil ?_)
        refine WQ.load rfl rfl rfl rfl rfl (fun w' hw' => cell_of_obj (j := 0) (hw'.obj 0 rfl) rfl) ?_
        repeat (first | refine WQ.pure rfl rfl rfl ?_ | refine WQ.off rfl rfl rfl ?_ | refine WQ.nil ?_)
        refine WQ.load rfl rfl rfl rfl rfl (fun w' hw' => cell_of_obj (j := 1) (hw'.obj 0 rfl) rfl) ?_
        refine WQ.val rfl rfl (fun _ _ => yBuildA (cs := [st r.1, st r.2]) rfl rfl rfl rfl) ?_
        refine WQ.call rfl rfl rfl rfl rfl ent52 hfq ?_
        repeat (first | refine WQ.pure rfl rfl rfl ?_ | refine WQ.off rfl rfl rfl ?_ | refine WQ.nil ?_)
        intro w' hp'
        exact ⟨(), ⟨rfl, rfl, rfl, rfl, rfl, rfl⟩, hp'⟩
      · rintro _ e7 w7 hsub hp7
        refine WC.sub hsub ?_
        clear hp6
        cases hf : formsM L2 r with
        | none =>
          rw [hf] at hT
          repeat (first | refine WC.seq ?_ | refine WC.reg ?_ | refine WL.pure rfl rfl rfl ?_ | refine WL.nil ?_ | refine WC.skip ?_ | refine WC.block ?_ | refine WC.condT rfl ?_ | refine WC.condF rfl ?_ | refine WL.off rfl rfl rfl ?_ | refine WL.off0 rfl rfl ?_ | refine WC.exit ?_ | refine blk_hit ?_ | refine blk_miss rfl ?_ | refine WC.ret ?_)
          refine Res.two rfl rfl rfl rfl ?_
          rw [hT]
          exact ⟨rfl, hp7.nil'⟩
        | some q =>
          have hq := formsM_some hf
          rw [hf, hq] at hT
          have hna := nrS_len hdn' r.1
          have hnb := nrS_len hdn' r.2
          repeat (first | refine WC.seq ?_ | refine WC.reg ?_ | refine WL.pure rfl rfl rfl ?_ | refine WL.nil ?_ | refine WC.skip ?_ | refine WC.block ?_ | refine WC.condT rfl ?_ | refine WC.condF rfl ?_ | refine WL.off rfl rfl rfl ?_ | refine WL.off0 rfl rfl ?_ | refine WC.exit ?_ | refine blk_hit ?_ | refine blk_miss rfl ?_ | refine WC.ret ?_)
          refine WL.sCmp rfl rfl rfl rfl rfl ?_
          repeat (first | refine WC.seq ?_ | refine WC.reg ?_ | refine WL.pure rfl rfl rfl ?_ | refine WL.nil ?_ | refine WC.skip ?_ | refine WC.block ?_ | refine WC.condT rfl ?_ | refine WC.condF rfl ?_ | refine WL.off rfl rfl rfl ?_ | refine WL.off0 rfl rfl ?_ | refine WC.exit ?_ | refine blk_hit ?_ | refine blk_miss rfl ?_ | refine WC.ret ?_)
          refine WC.cond rfl (fun h1 => ?_) (fun h1 => ?_)
          · have h1 : ¬ nrS L2 r.1 = nrS L2 r.2 := by simpa using h1
            simp only [if_neg h1] at hT
            generalize nrS L2 r.1 = x at *
            generalize nrS L2 r.2 = y at *
            repeat (first | refine WC.seq ?_ | refine WC.reg ?_ | refine WL.pure rfl rfl rfl ?_ | refine WL.nil ?_ | refine WC.skip ?_ | refine WC.block ?_ | refine WC.condT rfl ?_ | refine WC.condF rfl ?_ | refine WL.off rfl rfl rfl ?_ | refine WL.off0 rfl rfl ?_ | refine WC.exit ?_ | refine blk_hit ?_ | refine blk_miss rfl ?_ | refine WC.ret ?_)
            refine WL.call rfl rfl rfl rfl rfl ent68 (directed_any x y w7) ?_
            rintro _ w8 ⟨rfl, hp8⟩
            have hp8 := hp7.tail.comb hp8
            have hds := dirM_sm (n := 1000) (a := x) (b := y) (by omega) (by omega)
            refine WL.call rfl rfl rfl rfl rfl ent78 (put_any tb mb _ L2 (dirM x y) es2 c2 (Qk L2) (by omega) (hss'.mo _) (fun x hx => hx.1) hK' w w8 hmx hp8) ?_
            rintro _ w9 ⟨v', es3, hp9, hK3⟩
            have hpl := putM_len L2 (dirM x y)
            repeat (first | refine WC.seq ?_ | refine WC.reg ?_ | refine WL.pure rfl rfl rfl ?_ | refine WL.nil ?_ | refine WC.skip ?_ | refine WC.block ?_ | refine WC.condT rfl ?_ | refine WC.condF rfl ?_ | refine WL.off rfl rfl rfl ?_ | refine WL.off0 rfl rfl ?_ | refine WC.exit ?_ | refine blk_hit ?_ | refine blk_miss rfl ?_ | refine WC.ret ?_)
            exact ⟨(n + 1, v', putM L2 (dirM x y), es3, c2), (by show 2000 - (n + 1) < 2000 - n; omega), ⟨rfl, congrArg (fun z => some (Value.int .i64 z)) step, rfl⟩, by omega, putM_ss hss' _, hdn'.put (dirM_dn x y), hsm'.put hds, by omega, by rw [hk2]; exact hT, hK3.mono fun e _ x _ hq => Go.Words.Qk.put hq, hp9⟩
          · have h1 : nrS L2 r.1 = nrS L2 r.2 := by simpa using h1
            simp only [if_pos h1] at hT
            repeat (first | refine WC.seq ?_ | refine WC.reg ?_ | refine WL.pure rfl rfl rfl ?_ | refine WL.nil ?_ | refine WC.skip ?_ | refine WC.block ?_ | refine WC.condT rfl ?_ | refine WC.condF rfl ?_ | refine WL.off rfl rfl rfl ?_ | refine WL.off0 rfl rfl ?_ | refine WC.exit ?_ | refine blk_hit ?_ | refine blk_miss rfl ?_ | refine WC.ret ?_)
            exact ⟨(n + 1, .slice oa L2.length oc, L2, es2, c2), (by show 2000 - (n + 1) < 2000 - n; omega), ⟨rfl, congrArg (fun z => some (Value.int .i64 z)) step, rfl⟩, by omega, hss', hdn', hsm', by omega, by rw [hk2]; exact hT, hK', hp7.tail⟩
end Go.Proofs.YtoghnhbjdnjghaaGreat
