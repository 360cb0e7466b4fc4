/- The program's disk: Of. -/
import Derived.Test.YtfldhmeenbdkiaaGreatDoorVals
import Derived.Test.YtfldhmeenbdkiaaGreatDoorMD
namespace Go.Proofs.YtfldhmeenbdkiaaGreatDoor
open Go.RowKit Go.Shelf

attribute [local go_sem] Oper.semAt_some

/-- A row of sectors, as a disk may be made of. -/
def ImageOk (l : List ByteArray) : Prop := 48 ≤ l.length ∧ l.length ≤ 544 ∧ ∀ s ∈ l, s.size = 64
def DSt.of (l : List ByteArray) : DSt := { safe := l, wait := [], power := -1, off := false }

theorem IsDskAt.resafe {K : Kd} {w w' : World} {b bs c : Nat} {sp : List Value} {wv : Value} {S : Nat → Prop} {D : DSt} (h : IsDskAt K w b bs c sp wv S D) {l : List ByteArray} (hb : Blk w' bs tStr (strs l ++ sp)) (hf : Fr (· = bs) w w')
    (hl : l.length = D.safe.length) (hs : ∀ s ∈ l, s.size = 64) : IsDskAt K w' b bs c sp wv S { D with safe := l } where
  head := by have := h.head.fr hf (fun e => h.sb e.symm); rw [← hl] at this; exact this
  rows := hb
  wait := row_fr h.wait hf fun _ hk e => (h.apart hk).2.2 e
  own := h.own
  ownS := h.ownS
  ownW := h.ownW
  ok := ⟨by rw [hl]; exact h.ok.len, by rw [hl]; exact h.ok.lo48, by rw [hl]; exact h.ok.at_, hs, h.ok.wsize, h.ok.lo, h.ok.hi⟩

abbrev tPDisk : Nat := 27
def ofActs (B n c : Nat) (ao : Option Addr) (x : ByteArray) : Array Value :=
  #[.slice ao n c, undef, .pointer (some ⟨B, 0, none⟩), .pointer (some ⟨B + 1, 0, none⟩), .string x, undef, undef, .slice ao n c, .func (.func 78) #[] #[.pointer (some ⟨B + 1 + 1, 0, none⟩)], .string x,
    undef, undef, undef, undef, undef, undef, undef, undef, undef, undef, undef, undef, undef, undef, undef, undef, undef, undef, undef]

set_option maxRecDepth 100000 in
set_option maxHeartbeats 2000000 in
theorem of_calls {ao : Option Addr} {c : Nat} {l : List ByteArray} {w : World} (hS : Srcs w (.slice ao l.length c) l.length 1 (strs l)) (hl : l.length ≤ 9223372036854775807) :
    Calls Tryz.prog 9 #[.slice ao l.length c] w fun e w' => Fr Nob w w' ∧
      ((¬ ImageOk l ∧ e = .returned (.tuple #[.pointer none, .int .i64 1])) ∨ (ImageOk l ∧ ∃ b, e = .returned (.tuple #[.pointer (some ⟨b, 0, none⟩), .int .i64 0]) ∧ IsDsk kD w' b (Plus Nob w w') (DSt.of l))) := by
  refine (callsIn_wide (n := 3)).1 ?_
  have HS := Lib.hid hS
  obtain ⟨n, hn⟩ : ∃ n, n = l.length := ⟨_, rfl⟩
  have HN := Lib.hid hn
  rw [← hn] at hl ⊢
  clear hS hn
  refine callsIn_of_wp_marks Tryz.func9 rfl trivial ?_ rfl
  simp only [Tryz.ntmps9, List.size_toArray, List.length_cons, List.length_nil, Nat.reduceAdd, Nat.reduceSub, Array.replicate_succ, Array.replicate_zero, List.push_toArray, List.append_toArray, List.nil_append, List.cons_append]
  rw [wpIn_wide]
  go_wp2_with fail
  refine (vals_calls _ _ _ _).mono ?_
  rintro e w1 ⟨rfl, rfl⟩
  go_wp2_with fail
  obtain ⟨W0, hW0⟩ : ∃ W0, W0 = ((w.alloc (.cells #[.pointer none] tPDisk)).alloc (.cells #[.int .i64 0] tErrno)).alloc (.cells #[.slice ao n c] 22) := ⟨_, rfl⟩
  have bP : Boxed W0 w.heap.size tPDisk (.pointer none) := by
    rw [hW0]; exact ((Boxed.new w tPDisk (.pointer none)).alloc _).alloc _
  have bE : Boxed W0 (w.heap.size + 1) tErrno (.int .i64 0) := by
    have h := (Boxed.new (w.alloc (.cells #[.pointer none] tPDisk)) tErrno (.int .i64 0)).alloc (.cells #[.slice ao n c] 22)
    rw [World.size_alloc] at h
    rw [hW0]; exact h
  have bN : Boxed W0 (w.heap.size + 1 + 1) 22 (.slice ao n c) := by
    have h := Boxed.new ((w.alloc (.cells #[.pointer none] tPDisk)).alloc (.cells #[.int .i64 0] tErrno)) 22 (.slice ao n c)
    rw [World.size_alloc, World.size_alloc] at h
    rw [hW0]; exact h
  have hs0 : W0.heap.size = w.heap.size + 1 + 1 + 1 := by rw [hW0]; simp
  have hf0 : Fr Nob w W0 := by rw [hW0]; exact (((Fr.refl Nob w).alloc _).alloc _).alloc _
  rw [← hW0]
  have hB0 : Below w.heap.size w W0 := hf0.below _ (Nat.le_refl _) (fun _ h => h.elim)
  have hS0 : Srcs W0 (.slice ao l.length c) l.length 1 (strs l) := HS.out.fr hf0 (fun _ _ _ _ h => h)
  rw [← wpIn_wide (n := 3)]
  refine wpIn_rangeFunc_ownH (F := Fence.wide) (n := 3) rfl (by omega) (gf := 78) (lb := #[.pointer (some ⟨w.heap.size + 1 + 1, 0, none⟩)]) rfl trivial (enters_of Tryz.func78 (by kernel_rfl) rfl)
    (vals_stops Fence.wide 2 trivial rfl (by omega) (w.heap.size + 1 + 1) W0.heap.size ao c l (by rw [← HN.out]; exact hl) W0 (by omega) (by omega) rfl (by rw [← HN.out]; exact bN.cell) hS0) belowK_t (belowK_b (Nat.le_refl _)) (Below.refl _ _) (fun _ => rfl)
    (fun pre W => (∀ s ∈ pre, s.size = 64) ∧ Boxed W w.heap.size tPDisk (.pointer none) ∧ Boxed W (w.heap.size + 1) tErrno (.int .i64 0) ∧ Below w.heap.size w W ∧ W0.heap.size ≤ W.heap.size)
    (fun c pre W => c = .ret ∧ (∃ s ∈ pre, s.size ≠ 64) ∧ Boxed W w.heap.size tPDisk (.pointer none) ∧ Boxed W (w.heap.size + 1) tErrno (.int .i64 1) ∧ Below w.heap.size w W)
    (fun s A B row hs hg hr => ⟨hs.1, box_kept hs.2.1 hg (fun r e => (hr r e).2), box_kept hs.2.2.1 hg (fun r e => (hr r e).2), hs.2.2.2.1.grown hg hs.2.2.2.1.size (fun r e => by have := (hr r e).1; omega), Nat.le_trans hs.2.2.2.2 hg.size⟩)
    (fun c s A B row hs hg hr => by
      obtain ⟨h1, h2, h3, h4, h5⟩ := hs
      exact ⟨h1, h2, box_kept h3 hg (fun r e => (hr r e).2), box_kept h4 hg (fun r e => (hr r e).2), h5.grown hg h5.size (fun r e => by have := (hr r e).1; omega)⟩)
    ⟨by simp, bP, bE, hB0, Nat.le_refl _⟩
    (fun x a' W => a' = { tmps := ofActs w.heap.size n c ao x, defers := [] })
    (fun x a' s A B row hs hg hr => hs)
    ?assign ?body ?done ?stop
  case assign =>
    intro lp pre x W K hI hK
    clear bP bE bN hW0
    gi_wp2
    exact hK _ _ (KeepsFrom.refl _ _) (Below.refl _ _) hI rfl
  case body =>
    rintro lp pre x a' W hl0 ⟨r, hr⟩ ⟨hp, h1, h2, h4, hsz⟩ rfl hlt
    have p1 := h1.cell
    have p2 := h2.cell
    have f1 := h1.frozen
    have f2 := h2.frozen
    have H4 := Lib.hid h4
    have H1 := Lib.hid h1
    have H2 := Lib.hid h2
    have HP := Lib.hid hp
    have HS0 := Lib.hid hs0
    clear bP bE bN hW0 hr h4 h1 h2 hp hs0 hf0 hB0 hS0
    unfold ofActs
    by_cases hx : x.size = 64
    · have hx' : ((x.size : Int) == 64) = true := by rw [beq_iff_eq]; omega
      have HX := Lib.hid hx
      clear hx
      gi_wp2
      exact ⟨KeepsFrom.refl _ _, Below.refl _ _, fun p hp => (List.mem_append.1 hp).elim (HP.out p) (fun e => by simp at e; subst e; exact HX.out), H1.out, H2.out, H4.out, hsz⟩
    · have hx' : ((x.size : Int) == 64) = false := by rw [beq_eq_false_iff_ne]; omega
      have HX := Lib.hid hx
      clear hx
      gi_wp2
      have b2 : Boxed ((W.setCell ⟨w.heap.size, 0, none⟩ (.pointer none)).setCell ⟨w.heap.size + 1, 0, none⟩ (.int .i64 1)) w.heap.size tPDisk (.pointer none) :=
        (Below.heap_setCell _ _ _ _ (by simp)).trans (one_setCell H1.out)
      have b3 : Boxed ((W.setCell ⟨w.heap.size, 0, none⟩ (.pointer none)).setCell ⟨w.heap.size + 1, 0, none⟩ (.int .i64 1)) (w.heap.size + 1) tErrno (.int .i64 1) :=
        one_setCell ((Below.heap_setCell _ _ _ _ (by simp)).trans H2.out)
      exact ⟨((KeepsOthers.setCell _ _ _).trans (KeepsOthers.setCell _ _ _)).from _, rfl, ⟨x, by simp, HX.out⟩, b2, b3, (H4.out.setCell (by simp) _).setCell (by simp) _⟩
  case done =>
    rintro D1 ys W hD rfl ⟨hp, h1, h2, h4, hsz⟩ hK
    have hDlt := lt_of_block hK
    have H4 := Lib.hid h4
    have HP := Lib.hid hp
    have hFW : Fr Nob w W := Fr.of_below h4 (fun _ h _ => h)
    have hSW : Srcs W (.slice ao ys.length c) ys.length 1 (strs ys) := HS.out.fr hFW (fun _ _ _ _ h => h)
    clear bN hW0 h4 hp hf0 hB0 hS0
    by_cases hlen : n < 48 ∨ 544 < n
    · have p1 := h1.cell
      have p2 := h2.cell
      have f1 := h1.frozen
      have f2 := h2.frozen
      have H1 := Lib.hid h1
      have H2 := Lib.hid h2
      have HK := Lib.hid hK
      have HB : Hid (¬ ImageOk ys) := fun h => by have := h.1; have := h.2.1; have := HN.out; omega
      have hlen2 : (n : Int) < 48 ∨ 544 < (n : Int) := by omega
      clear bP bE h1 h2 hK hlen hFW hSW
      go_wp2_with fail
      refine (new_arg n W hlen2).mono ?_
      rintro e w2 ⟨rfl, rfl⟩
      clear hlen2
      go_wp2_with fail
      have b2 : Boxed ((W.setCell ⟨w.heap.size, 0, none⟩ (.pointer none)).setCell ⟨w.heap.size + 1, 0, none⟩ (.int .i64 1)) w.heap.size tPDisk (.pointer none) :=
        (Below.heap_setCell _ _ _ _ (by simp)).trans (one_setCell H1.out)
      have b3 : Boxed ((W.setCell ⟨w.heap.size, 0, none⟩ (.pointer none)).setCell ⟨w.heap.size + 1, 0, none⟩ (.int .i64 1)) (w.heap.size + 1) tErrno (.int .i64 1) :=
        one_setCell ((Below.heap_setCell _ _ _ _ (by simp)).trans H2.out)
      have hK2 : ((W.setCell ⟨w.heap.size, 0, none⟩ (.pointer none)).setCell ⟨w.heap.size + 1, 0, none⟩ (.int .i64 1)).heap[D1]? = some (.deferred (some [])) := ((KeepsOthers.setCell _ _ _).trans (KeepsOthers.setCell _ _ _)).same D1 _ HK.out rfl
      have hB2 : Below w.heap.size w ((W.setCell ⟨w.heap.size, 0, none⟩ (.pointer none)).setCell ⟨w.heap.size + 1, 0, none⟩ (.int .i64 1)) := ((H4.out.setCell (by simp) _).setCell (by simp) _)
      generalize ((W.setCell ⟨w.heap.size, 0, none⟩ (.pointer none)).setCell ⟨w.heap.size + 1, 0, none⟩ (.int .i64 1)) = W2 at *
      refine ⟨by simp, .inl ⟨_, _, rfl, run_takeDeferred hK2, ?_⟩⟩
      have c4 := cell_kept b2.cell (grownBy_putObj' _ D1 (.deferred none)) (fun r e => by cases e; exact ⟨_, hK2, rfl⟩)
      have c5 := cell_kept b3.cell (grownBy_putObj' _ D1 (.deferred none)) (fun r e => by cases e; exact ⟨_, hK2, rfl⟩)
      refine ⟨.tuple #[.pointer none, .int .i64 1], ?_, Fr.of_below (hB2.trans (belowK_b (w := w) (Nat.le_refl _) W2 D1 _ _ (by omega) hK2 rfl rfl)) (fun _ h _ => h), .inl ⟨HB.out, rfl⟩⟩
      simp [results, Tryz.f9, go_sem, c4, c5]
    · have hn1 : 48 ≤ n := by omega
      have hn2 : n ≤ 544 := by omega
      have HIM : Hid (ImageOk ys) := ⟨by rw [← HN.out]; exact hn1, by rw [← HN.out]; exact hn2, HP.out⟩
      have H1 := Lib.hid h1
      have H2 := Lib.hid h2
      have HK := Lib.hid hK
      have HFW := Lib.hid hFW
      have HSW := Lib.hid hSW
      clear bP bE h1 h2 hK hlen hFW hSW
      go_wp2_with fail
      refine (new_ok n W hn1 hn2).mono ?_
      rintro e w2 ⟨b, rfl, ⟨bs, c5, sp, wv, h⟩, hf⟩
      have hdl : (DSt.fresh n).safe.length = n := by simp [DSt.fresh]
      have c0 := h.head.cell (j := 0) rfl
      rw [hdl] at c0
      have hsr : Srcs w2 (.slice ao ys.length c) ys.length 1 (strs ys) := HSW.out.fr hf (fun _ _ _ _ h => h)
      obtain ⟨y0, hy0⟩ : ∃ y0, ys[0]? = some y0 := ⟨_, List.getElem?_eq_getElem (by rw [← HN.out]; omega)⟩
      obtain ⟨g, off, rfl, _⟩ := hsr.at (j := 0) (u := .string y0) (by simp [strs, hy0])
      have hcs : ∀ (j : Nat) (v : Value), (strs ys)[j]? = some v → w2.cell? ((⟨g, off, none⟩ : Addr).add j) = some v := by
        intro j v hj
        obtain ⟨g', off', e', hc'⟩ := hsr.at hj
        simp only [Option.some.injEq, Addr.mk.injEq, and_true] at e'
        obtain ⟨rfl, rfl⟩ := e'
        simp only [Addr.add_lit]
        exact hc'
      have HCS := Lib.hid hcs
      have HH := Lib.hid h
      have HF2 := Lib.hid hf
      have hmin : (strs ys).length = Nat.min n n := by simp [strs, ← HN.out]
      have hfit : 0 + (strs ys).length ≤ (strs (DSt.fresh n).safe ++ sp).length := by simp [strs, DSt.fresh, ← HN.out]
      have hrw : Hid (Blk w2 bs tStr (strs (DSt.fresh n).safe ++ sp)) := h.rows
      have HMI := Lib.hid hmin
      have HFI := Lib.hid hfit
      have b1 : Boxed w2 w.heap.size tPDisk (.pointer none) := Blk.fr (cs := [_]) H1.out hf (fun h => h)
      have b2 : Boxed w2 (w.heap.size + 1) tErrno (.int .i64 0) := Blk.fr (cs := [_]) H2.out hf (fun h => h)
      have hK2 : w2.heap[D1]? = some (.deferred (some [])) := (hf.block D1 hDlt (fun h => h)).trans HK.out
      have hbl : W.heap.size ≤ bs := by rcases h.ownS with h | h; exact h.elim; exact h.1
      clear hcs h hf hsr hy0 hdl hmin hfit
      have haf : ∀ w3, Blk w3 bs tStr (splice (strs (DSt.fresh n).safe ++ sp) 0 (strs ys)) → Fr (· = bs) w2 w3 → Boxed w3 w.heap.size tPDisk (.pointer none) ∧ Boxed w3 (w.heap.size + 1) tErrno (.int .i64 0) ∧ w3.heap[D1]? = some (.deferred (some [])) ∧
          Hid (IsDskAt kD w3 b bs c5 sp wv (Plus Nob W w2) (DSt.of ys)) := by
        intro w3 hb3 hf3
        have hsp : splice (strs (DSt.fresh n).safe ++ sp) 0 (strs ys) = strs ys ++ sp := by
          have h1 : (strs ys).length = (strs (DSt.fresh n).safe).length := by simp [strs, DSt.fresh, ← HN.out]
          unfold splice
          simp [h1]
        rw [hsp] at hb3
        exact ⟨Blk.fr (cs := [_]) b1 hf3 (fun e => by omega), Blk.fr (cs := [_]) b2 hf3 (fun e => by omega), (hf3.block D1 (lt_of_block hK2) (fun e => by omega)).trans hK2, HH.out.resafe hb3 hf3 (by simp [DSt.fresh, ← HN.out]) HP.out⟩
      have HAF := Lib.hid haf
      clear haf
      go_wp2_with (with_reducible show wpList _ _ _ _ _ _; refine wpList_copy_mine (d := .tmp 25) (s := .tmp 26) rfl rfl Tryz.rowStr rfl rfl hrw.out (cs := strs ys) HMI.out HCS.out HFI.out (strs_one _) ?_; intro w3 hb3 hf3 hs3; obtain ⟨b1', b2', hK3, HD3⟩ := HAF.out w3 hb3 hf3; have p1 := b1'.cell; have p2 := b2'.cell; have f1 := b1'.frozen; have f2 := b2'.frozen)
      have F34 : Fr (fun k => k = w.heap.size ∨ k = w.heap.size + 1) w3 ((w3.setCell ⟨w.heap.size, 0, none⟩ (.pointer (some ⟨b, 0, none⟩))).setCell ⟨w.heap.size + 1, 0, none⟩ (.int .i64 0)) :=
        (Fr.setCell (.inl rfl) _ _ _).trans (Fr.setCell (.inr rfl) _ _ _)
      have d1 : Boxed ((w3.setCell ⟨w.heap.size, 0, none⟩ (.pointer (some ⟨b, 0, none⟩))).setCell ⟨w.heap.size + 1, 0, none⟩ (.int .i64 0)) w.heap.size tPDisk (.pointer (some ⟨b, 0, none⟩)) :=
        (Below.heap_setCell _ _ _ _ (by simp)).trans (one_setCell b1')
      have d2 : Boxed ((w3.setCell ⟨w.heap.size, 0, none⟩ (.pointer (some ⟨b, 0, none⟩))).setCell ⟨w.heap.size + 1, 0, none⟩ (.int .i64 0)) (w.heap.size + 1) tErrno (.int .i64 0) :=
        one_setCell ((Below.heap_setCell _ _ _ _ (by simp)).trans b2')
      have hK4 : ((w3.setCell ⟨w.heap.size, 0, none⟩ (.pointer (some ⟨b, 0, none⟩))).setCell ⟨w.heap.size + 1, 0, none⟩ (.int .i64 0)).heap[D1]? = some (.deferred (some [])) := ((KeepsOthers.setCell _ _ _).trans (KeepsOthers.setCell _ _ _)).same D1 _ hK3 rfl
      generalize ((w3.setCell ⟨w.heap.size, 0, none⟩ (.pointer (some ⟨b, 0, none⟩))).setCell ⟨w.heap.size + 1, 0, none⟩ (.int .i64 0)) = W4 at *
      have F45 : Fr (· = D1) W4 (W4.putObj D1 (.deferred none)) := (Fr.refl _ _).grown (grownBy_putObj' _ _ _) (fun k e => .inl (by cases e; rfl))
      have hWw := HFW.out.size
      have hD5 := (HD3.out.fr F34 (fun k hk e => by rcases hk with hk | hk; exact hk; omega)).fr F45 (fun k hk e => by rcases hk with hk | hk; exact hk; omega)
      have FA : Fr Nob w (W4.putObj D1 (.deferred none)) := ((((HFW.out.trans HF2.out).trans' hf3 (fun i hi e => by omega)).trans' F34 (fun i hi e => by omega)).trans' F45 (fun i hi e => by omega))
      have hs25 : w2.heap.size ≤ (W4.putObj D1 (.deferred none)).heap.size := by rw [← hs3]; exact Nat.le_trans F34.size F45.size
      have c4 := cell_kept d1.cell (grownBy_putObj' _ D1 (.deferred none)) (fun r e => by cases e; exact ⟨_, hK4, rfl⟩)
      have c5 := cell_kept d2.cell (grownBy_putObj' _ D1 (.deferred none)) (fun r e => by cases e; exact ⟨_, hK4, rfl⟩)
      refine ⟨by simp, .inl ⟨_, _, rfl, run_takeDeferred hK4, ?_⟩⟩
      refine ⟨.tuple #[.pointer (some ⟨b, 0, none⟩), .int .i64 0], ?_, FA, .inr ⟨HIM.out, b, rfl, ⟨_, _, _, _, hD5.mono (plus_mono hWw hs25)⟩⟩⟩
      simp [results, Tryz.f9, go_sem, c4, c5]
  case stop =>
    rintro D1 c pre W hD hpre ⟨rfl, hbad, h2, h3, h4⟩ hK
    have H2 := Lib.hid h2
    have H3 := Lib.hid h3
    have H4 := Lib.hid h4
    have HK := Lib.hid hK
    have HB : Hid (¬ ImageOk l) := by
      obtain ⟨s, hs, hz⟩ := hbad
      exact fun h => hz (h.2.2 s (hpre.subset hs))
    clear bP bE bN hW0 hf0 hB0 hpre h2 h3 h4 hK hbad hS0
    gi_wp2
    have hK2 := HK.out
    have hB2 := H4.out
    refine ⟨by simp, .inl ⟨_, _, rfl, run_takeDeferred hK2, ?_⟩⟩
    have c4 := cell_kept H2.out.cell (grownBy_putObj' _ D1 (.deferred none)) (fun r e => by cases e; exact ⟨_, hK2, rfl⟩)
    have c5 := cell_kept H3.out.cell (grownBy_putObj' _ D1 (.deferred none)) (fun r e => by cases e; exact ⟨_, hK2, rfl⟩)
    refine ⟨.tuple #[.pointer none, .int .i64 1], ?_, Fr.of_below (hB2.trans (belowK_b (w := w) (Nat.le_refl _) W D1 _ _ (by omega) hK2 rfl rfl)) (fun _ h _ => h), .inl ⟨HB.out, rfl⟩⟩
    simp [results, Tryz.f9, go_sem, c4, c5]
end Go.Proofs.YtfldhmeenbdkiaaGreatDoor
