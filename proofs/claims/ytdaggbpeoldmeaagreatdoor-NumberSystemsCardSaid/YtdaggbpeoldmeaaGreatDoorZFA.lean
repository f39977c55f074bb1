/- The functions of the program, as code of the abstract evaluator (printed by mkFT.py). -/
import Derived.Test.YtdaggbpeoldmeaaGreatDoorM2
set_option maxRecDepth 100000
namespace Go.Ae.C
open gM bp
def a24:cy:=⟨105,[.tmp 4,.tmp 5],(q [o 4 (.mv (.k (.aq))),vi 5 0]
 (.seq (q [v 18 0,bi 19 .lss 18 0,v 20 19,g 21 (m 0) 20 false,gb 22 .gtr (.t 21) (i 999999999) 20 false,pt 23 20 22,c 24 131 [.t 23,i 3],v 25 1,c 26 132 [.t 25],o 27 (.cL 1 2 [.int .i64 0,.int .i64 0] [(0,1,(.t 24)),(1,1,(.t 26))]),c 28 130 [.t 27],v 6 28]
 (q [v 29 6,bi 30 .neq 29 0]
 (k 30 (q [v 31 6,o 4 (.mv (.k (.aq))),v 5 31]
 .ret))))
 (q [vi 7 0]
 (.seq (q [v 32 1,ln 33 32,vi 34 0]
 (.block 0 (.loop (q [bt 35 .lss 34 33]
 (.seq (.cond (.t 35) .skip
 (.exit 0))
 (.seq (.block 1 (q [ix 36 1 32 34,l 37 false 1 36,v 9 37]
 (.cx [v 38 7,v 39 9,bt 40 .add 38 39,v 7 40])))
 (.cx [bi 41 .add 34 1,v 34 41])))))))
 (q [v 42 1,ln 43 42,o 44 (.uN 1 8 [.int .i64 0] (.t 43) (.t 43)),v 10 44]
 (q [v 45 1,ln 46 45,o 47 (.uN 1 8 [.int .i64 0] (.t 46) (.t 46)),o 11 (.alloc [.aq]),s 1 11 47]
 (q [v 48 1,ln 49 48,o 50 (.uN 1 8 [.int .i64 0] (.t 49) (.t 49)),v 12 50]
 (q [v 51 0,v 13 51]
 (.seq (q [v 52 1,ln 53 52,vi 54 0]
 (.block 2 (.loop (q [bt 55 .lss 54 53]
 (.seq (.cond (.t 55) .skip
 (.exit 2))
 (.seq (.block 3 (q [v 56 54,ix 57 1 52 54,l 58 false 1 57,v 14 56,v 15 58]
 (.seq (.cm [v 59 10,v 60 14,w 61 false 1 11 18,v 62 14,v 63 12,v 64 14,v 65 0,v 66 15,bt 67 .mul 65 66,v 68 7,bt 69 .quo 67 68,v 70 0,v 71 15,bt 72 .mul 70 71,v 73 7,bt 74 .rem 72 73,v 75 14,ix 76 1 59 60,s 1 76 69,ix 77 1 61 62,s 1 77 74,ix 78 1 63 64,s 1 78 75])
 (.cx [v 79 13,v 80 10,v 81 14,ix 82 1 80 81,l 83 false 1 82,bt 84 .sub 79 83,v 13 84]))))
 (.cx [bi 85 .add 54 1,v 54 85])))))))
 (q [v 86 12,o 87 (.Og 134 [.t 11]),c 88 133 [.t 86,.t 87]]
 (.seq (q [v 89 12,v 90 13,o 91 (.sl 1 (.t 89) none (some (.t 90))),ln 92 91,vi 93 0]
 (.block 4 (.loop (q [bt 94 .lss 93 92]
 (.seq (.cond (.t 94) .skip
 (.exit 4))
 (.seq (.block 5 (q [ix 95 1 91 93,l 96 false 1 95,v 17 96]
 (.cx [v 97 10,v 98 17,ix 99 1 97 98,l 100 false 1 99,bi 101 .add 100 1,ix 102 1 97 98,s 1 102 101])))
 (.cx [bi 103 .add 93 1,v 93 103])))))))
 (q [v 104 10,v 4 104,vi 5 0]
 .ret))))))))))))⟩
def a29:cy:=⟨69,[.tmp 4,.tmp 5],(q [o 4 (.mv (.k (.aq))),vi 5 0]
 (.seq (q [v 11 0,bi 12 .lss 11 1,v 13 12,g 14 (m 0) 13 false,gb 15 .gtr (.t 14) (i 2147483646) 13 false,pt 16 13 15,v 17 16,g 18 (m 1) 17 false,gb 19 .lss (.t 18) (i 0) 17 false,pt 20 17 19,v 21 20,g 22 (m 1) 21 false,gb 23 .gtr (.t 22) (i 256) 21 false,pt 24 21 23]
 (k 24 (q [o 4 (.mv (.k (.aq))),vi 5 3]
 .ret)))
 (q [v 25 1,o 26 (.uN 1 8 [.int .i64 0] (.t 25) (.t 25)),v 6 26]
 (.seq (q [v 27 6,ln 28 27,vi 29 0]
 (.block 0 (.loop (q [bt 30 .lss 29 28]
 (.seq (.cond (.t 30) .skip
 (.exit 0))
 (.seq (.block 1 (q [v 31 29,v 7 31]
 (.cx [v 32 6,v 33 7,v 34 7,ix 35 1 32 33,s 1 35 34])))
 (.cx [bi 36 .add 29 1,v 29 36])))))))
 (q [v 37 0,v 8 37]
 (.seq (q [vi 9 0]
 (.block 2 (.loop (.seq (q [v 38 9,v 39 1,bi 40 .sub 39 1,bt 41 .lss 38 40]
 (.cond (.t 41) .skip
 (.exit 2)))
 (.seq (.block 3 (q [v 44 8,b 45 .mul (i 48271) (.t 44),bi 46 .rem 45 2147483647,v 8 46]
 (q [v 47 9,v 48 8,v 49 1,v 50 9,bt 51 .sub 49 50,bt 52 .rem 48 51,bt 53 .add 47 52,v 10 53]
 (.cm [v 54 6,v 55 9,v 56 6,v 57 10,v 58 6,v 59 10,ix 60 1 58 59,w 61 false 1 60 7,v 62 6,v 63 9,ix 64 1 62 63,w 65 false 1 64 11,ix 66 1 54 55,s 1 66 61,ix 67 1 56 57,s 1 67 65]))))
 (.cx [v 42 9,bi 43 .add 42 1,v 9 43]))))))
 (q [v 68 6,v 4 68,vi 5 0]
 .ret)))))))⟩
def a37:cy:=⟨108,[.tmp 4,.tmp 5],(q [o 4 (.mv (.k (.aq))),vi 5 0]
 (q [v 17 0,ln 18 17,v 6 18]
 (.seq (q [v 19 6,bi 20 .eql 19 0,c 21 131 [.t 20,i 12],v 22 6,bi 23 .gtr 22 24,c 24 131 [.t 23,i 5],o 25 (.cL 1 2 [.int .i64 0,.int .i64 0] [(0,1,(.t 21)),(1,1,(.t 24))]),c 26 130 [.t 25],v 7 26]
 (q [v 27 7,bi 28 .neq 27 0]
 (k 28 (q [v 29 7,o 4 (.mv (.k (.aq))),v 5 29]
 .ret))))
 (q [o 8 (.mv (.k (.aq)))]
 (.seq (q [v 30 0,ln 31 30,vi 32 0]
 (.block 0 (.loop (q [bt 33 .lss 32 31]
 (.seq (.cond (.t 33) .skip
 (.exit 0))
 (.seq (.block 1 (q [ix 34 1 30 32,l 35 false 1 34,v 10 35]
 (.seq (q [v 36 10,ln 37 36,v 38 6,bt 39 .neq 37 38,c 40 131 [.t 39,i 2],v 41 10,c 42 136 [.t 41],o 43 (.cL 1 2 [.int .i64 0,.int .i64 0] [(0,1,(.t 40)),(1,1,(.t 42))]),c 44 130 [.t 43],v 11 44]
 (q [v 45 11,bi 46 .neq 45 0]
 (k 46 (q [v 47 11,o 4 (.mv (.k (.aq))),v 5 47]
 .ret))))
 (.cx [v 48 8,v 49 10,c 50 137 [.t 49],o 51 (.cL 1 1 [.aq] [(0,1,(.t 50))]),o 52 (.app 1 24 (.t 48) (.t 51)),v 8 52]))))
 (.cx [bi 53 .add 32 1,v 32 53])))))))
 (.seq (q [v 54 1,ln 55 54,v 56 6,bt 57 .neq 55 56,c 58 131 [.t 57,i 2],v 59 1,c 60 136 [.t 59],o 61 (.cL 1 2 [.int .i64 0,.int .i64 0] [(0,1,(.t 58)),(1,1,(.t 60))]),c 62 130 [.t 61],v 12 62]
 (q [v 63 12,bi 64 .neq 63 0]
 (k 64 (q [v 65 12,o 4 (.mv (.k (.aq))),v 5 65]
 .ret))))
 (.seq (q [v 66 8,ln 67 66,vi 68 0]
 (.block 2 (.loop (q [bt 69 .lss 68 67]
 (.seq (.cond (.t 69) .skip
 (.exit 2))
 (.seq (.block 3 (q [v 70 68,v 13 70]
 (.cm [v 71 8,v 72 13,v 73 8,v 74 13,ix 75 1 73 74,w 76 false 1 75 11,v 77 1,v 78 13,ix 79 1 77 78,w 80 false 1 79 9,c 81 111 [.t 80],o 82 (.cL 4 1 zF [(0,4,(.t 81))]),o 83 (.app 4 64 (.t 76) (.t 82)),ix 84 1 71 72,s 1 84 83])))
 (.cx [bi 85 .add 68 1,v 68 85])))))))
 (.seq (q [v 86 8,v 87 6,c 88 138 [.t 86,.t 87],y 89 .not 88]
 (k 89 (q [o 4 (.mv (.k (.aq))),vi 5 14]
 .ret)))
 (q [o 14 (.mv (.k (.aq)))]
 (.seq (q [v 90 8,ln 91 90,vi 92 0]
 (.block 4 (.loop (q [bt 93 .lss 92 91]
 (.seq (.cond (.t 93) .skip
 (.exit 4))
 (.seq (.block 5 (q [ix 94 1 90 92,l 95 false 1 94,v 16 95]
 (.cx [v 96 14,v 97 16,v 98 6,ix 99 4 97 98,l 100 true 4 99,o 101 (.cL 4 1 zF [(0,4,(.t 100))]),o 102 (.app 4 64 (.t 96) (.t 101)),v 14 102])))
 (.cx [bi 103 .add 92 1,v 92 103])))))))
 (.seq (q [v 104 14,c 105 139 [.t 104,(.k (.fn 140 []))]]
 (k 105 (q [o 4 (.mv (.k (.aq))),vi 5 4]
 .ret)))
 (q [v 106 14,c 107 141 [.t 106],v 4 107,vi 5 0]
 .ret))))))))))))⟩
def a46:cy:=⟨18,[.tmp 2],(q [o 1 (.box (.t 0)),vi 2 0]
 (.seq (.cm [c 6 154 [],fa 7 0 1,w 8 false 1 7 2,o 9 (.Ok (.t 6) (.t 8) (.agg [.kg,.kg]) true),v 5 9,e 10 5 0,e 11 5 1,o 3 (.alloc [.kg,.kg]),s 2 3 10,v 4 11])
 (.seq (q [v 12 4,y 13 .not 12]
 (k 13 (q [vi 2 13]
 .ret)))
 (q [fa 14 0 3,l 15 false 1 14,l 16 true 5 1,o 17 (.gQ (.t 15) [.t 16]),v 2 17]
 .ret))))⟩
def a60:cy:=⟨22,[.tmp 2],(q [o 1 (.box (.t 0)),vi 2 0]
 (.seq (q [fa 4 0 1,l 5 false 1 4,fa 6 1 1,l 7 false 1 6,o 8 (.cL 1 2 zS [(0,1,(.t 5)),(1,1,(.t 7))]),c 9 136 [.t 8],v 3 9]
 (q [v 10 3,bi 11 .neq 10 0]
 (k 11 (q [v 12 3,v 2 12]
 .ret))))
 (.seq (.cm [fa 13 0 1,w 14 false 1 13 1,c 15 111 [.t 14],fa 16 1 1,w 17 false 1 16 4,c 18 111 [.t 17],c 19 161 [.t 15,.t 18],bi 20 .gtr 19 0,c 21 131 [.t 20,i 11],v 2 21])
 .ret)))⟩
def a63:cy:=⟨11,[.cell 4 true 2,.tmp 5],(q [o 2 (.box (.t 0)),o 3 (.box (.t 1)),o 4 (.alloc zS),vi 5 0]
 (q [l 6 true 2 2,l 7 true 2 3,c 8 162 [.t 6,.t 7,(.k (.fn 115 []))],e 9 8 0,e 10 8 1,s 2 4 9,v 5 10]
 .ret))⟩
def a95:cy:=⟨16,[.tmp 4,.tmp 5],(q [o 4 (.mv (.k (.str []))),vi 5 0]
 (.seq (q [v 6 1,bi 7 .eql 6 0]
 (k 7 (q [o 4 (.mv (.k (.str []))),vi 5 6]
 .ret)))
 (q [v 8 0,c 9 120 [.t 8],v 10 1,c 11 120 [.t 10],c 12 119 [.t 9,.t 11],c 13 175 [.t 12],e 14 13 0,e 15 13 1,v 4 14,v 5 15]
 .ret)))⟩
def a96:cy:=⟨17,[.tmp 2,.tmp 3],(q [o 2 (.mv (.k (.str []))),vi 3 0]
 (.seq (q [v 5 0,c 6 101 [.t 5],v 4 6]
 (q [v 7 4,bi 8 .neq 7 0]
 (k 8 (q [v 9 4,o 2 (.mv (.k (.str []))),v 3 9]
 .ret))))
 (q [v 10 0,c 11 111 [.t 10],c 12 117 [.t 11],c 13 183 [.t 12],c 14 175 [.t 13],e 15 14 0,e 16 14 1,v 2 15,v 3 16]
 .ret)))⟩
def uE:cy:=⟨76,[.tmp 2],(q [vi 2 0]
 (q [v 12 0,c 13 188 [.t 12,(.k (.str [45]))],v 11 13,e 14 11 0,e 15 11 1,v 3 14,v 4 15]
 (q [v 17 3,c 18 147 [.t 17,(.k (.str [47]))],v 16 18,e 19 16 0,e 20 16 1,e 21 16 2,v 5 19,v 6 20,v 7 21]
 (q [v 22 5,c 23 189 [.t 22],v 24 23,g 25 (m 4) 24 true,g 26 (.un .not (.t 25)) 24 true,g 27 (m 26) 24 true,g 28 (m 5) 27 false,gb 29 .neq (.t 28) (.k (.str [48])) 27 false,g 30 (.pick (.t 27) (.k (.bool true)) (.t 29)) 24 true,pf 31 24 30,v 8 31]
 (.seq (q [v 32 7]
 (k 32 (.cx [v 33 8,v 34 33,g 35 (m 6) 34 true,gc 36 189 [.t 35] 34 true,pf 37 34 36,v 38 37,g 39 (m 6) 38 true,gb 40 .neq (.t 39) (.k (.str [48])) 38 true,pf 41 38 40,v 42 41,g 43 (m 6) 42 true,gb 44 .neq (.t 43) (.k (.str [49])) 42 true,pf 45 42 44,v 8 45])))
 (.seq (q [v 46 8,y 47 .not 46,c 48 131 [.t 47,i 1],v 49 5,ls 50 49,bi 51 .gtr 50 600,v 52 51,g 53 (m 6) 52 false,g 54 (.len .str (.t 53)) 52 false,gb 55 .gtr (.t 54) (i 600) 52 false,pt 56 52 55,c 57 131 [.t 56,i 4],o 58 (.cL 1 2 [.int .i64 0,.int .i64 0] [(0,1,(.t 48)),(1,1,(.t 57))]),c 59 130 [.t 58],v 9 59]
 (q [v 60 9,bi 61 .neq 60 0]
 (k 61 (q [v 62 9,v 2 62]
 .ret))))
 (q [v 63 7,v 64 63,g 65 (m 5) 64 true,gc 66 191 [.t 65] 64 true,g 67 (m 6) 64 true,gc 68 191 [.t 67] 64 true,gc 69 190 [.t 66,.t 68] 64 true,gc 70 120 [i 1] 64 true,gc 71 192 [.t 69,.t 70] 64 true,gb 72 .neq (.t 71) (i 0) 64 true,pf 73 64 72,v 10 73]
 (q [v 74 10,c 75 131 [.t 74,i 1],v 2 75]
 .ret))))))))⟩
def Tw:cy:=⟨8,[.cell 4 true 2],(q [o 4 (.alloc zS)]
 (q [v 5 0,v 6 1,o 7 (.build zS [(0,1,(.t 5)),(1,1,(.t 6))]),s 2 4 7]
 .ret))⟩
def LW:cy:=⟨26,[.tmp 4],(q [o 4 (.mv (.k (.bool false)))]
 (.seq (q [v 6 0,ln 7 6,v 8 1,ln 9 8,bt 10 .neq 7 9]
 (k 10 (q [o 4 (.mv (.k (.bool false)))]
 .ret)))
 (.seq (q [vi 5 0]
 (.block 0 (.loop (.seq (q [v 11 5,v 12 0,ln 13 12,bt 14 .lss 11 13]
 (.cond (.t 14) .skip
 (.exit 0)))
 (.seq (.block 1 (.seq (.cm [v 17 0,v 18 5,ix 19 1 17 18,w 20 false 1 19 3,v 21 1,v 22 5,ix 23 1 21 22,w 24 false 1 23 7,bt 25 .neq 20 24])
 (k 25 (q [o 4 (.mv (.k (.bool false)))]
 .ret))))
 (.cx [v 15 5,bi 16 .add 15 1,v 5 16]))))))
 (q [o 4 (.mv (.k (.bool true)))]
 .ret))))⟩
def LV:cy:=⟨22,[.cell 2 true 4],(q [o 2 (.alloc zF)]
 (q [v 7 0,c 8 147 [.t 7,(.k (.str [47]))],v 6 8,e 9 6 0,e 10 6 1,e 11 6 2,v 3 9,v 4 10,v 5 11]
 (.seq (q [v 12 5,y 13 .not 12]
 (k 13 (q [v 14 3,c 15 191 [.t 14],c 16 183 [.t 15],s 4 2 16]
 .ret)))
 (q [v 17 3,c 18 191 [.t 17],v 19 4,c 20 191 [.t 19],o 21 (.build zF [(0,2,(.t 18)),(2,2,(.t 20))]),s 4 2 21]
 .ret))))⟩
def LU:cy:=⟨6,[.tmp 2],(q [o 1 (.box (.t 0)),vi 2 0]
 (q [fa 3 0 1,l 4 true 2 3,c 5 194 [.t 4],v 2 5]
 .ret))⟩
def Tv:cy:=⟨35,[.cell 2 true 4,.tmp 3],(q [o 1 (.box (.t 0)),o 2 (.alloc zF),o 3 (.mv (.k (.bool false)))]
 (.seq (q [l 6 true 4 1,c 7 112 [.t 6],bi 8 .lss 7 0]
 (k 8 (q [o 9 (.build zF []),s 4 2 9,o 3 (.mv (.k (.bool false)))]
 .ret)))
 (.seq (.cm [fa 10 0 1,w 11 true 2 10 1,c 12 118 [.t 11],fa 13 2 1,w 14 true 2 13 4,c 15 118 [.t 14],o 4 (.alloc zI),o 5 (.alloc zI),s 2 4 12,s 2 5 15])
 (.seq (.cm [w 16 true 2 4 16,w 17 true 2 5 16,o 18 (.build zF [(0,2,(.t 16)),(2,2,(.t 17))]),w 19 true 2 4 3,w 20 true 2 4 4,c 21 195 [.t 19,.t 20],fa 22 0 1,w 23 true 2 22 7,c 24 192 [.t 21,.t 23],bi 25 .eql 24 0,v 26 25,x 27 true 2 5 26 true 11,x 28 true 2 5 26 true 12,gc 29 195 [.t 27,.t 28] 26 true,g 30 (.jk 2 (.t 1)) 26 true,x 31 true 2 30 26 true 15,gc 32 192 [.t 29,.t 31] 26 true,gb 33 .eql (.t 32) (i 0) 26 true,pf 34 26 33,s 4 2 18,v 3 34])
 .ret))))⟩
def Tu:cy:=⟨18,[.cell 4 true 2,.tmp 5],(q [o 2 (.box (.t 0)),o 3 (.box (.t 1)),o 4 (.alloc zS),vi 5 0]
 (.seq (q [l 6 true 4 2,c 7 140 [.t 6],v 8 7,gl 9 true 4 3 8 false,gc 10 140 [.t 9] 8 false,pt 11 8 10]
 (k 11 (q [o 12 (.build zS []),s 2 4 12,vi 5 4]
 .ret)))
 (.seq (.cm [w 13 true 4 2 0,c 14 196 [.t 13],w 15 true 4 3 2,c 16 196 [.t 15],o 17 (.build zS [(0,1,(.t 14)),(1,1,(.t 16))]),s 2 4 17,vi 5 0])
 .ret)))⟩
def LS:cy:=⟨16,[.cell 4 true 4],(q [o 2 (.box (.t 0)),o 3 (.box (.t 1)),o 4 (.alloc zF)]
 (.seq (.cm [fa 5 0 2,w 6 true 2 5 1,fa 7 0 3,w 8 true 2 7 3,c 9 195 [.t 6,.t 8],fa 10 2 2,w 11 true 2 10 6,fa 12 2 3,w 13 true 2 12 8,c 14 195 [.t 11,.t 13],c 15 119 [.t 9,.t 14],s 4 4 15])
 .ret))⟩
def a116:cy:=⟨6,[.cell 2 true 4],(q [o 2 (.alloc zF)]
 (q [v 3 0,c 4 120 [.t 3],c 5 183 [.t 4],s 4 2 5]
 .ret))⟩
def a117:cy:=⟨14,[.cell 2 true 2],(q [o 1 (.box (.t 0)),o 2 (.alloc zI)]
 (q [fa 6 0 1,l 7 true 2 6,fa 8 2 1,l 9 true 2 8,c 10 197 [.t 7,.t 9],v 5 10,e 11 5 0,e 12 5 1,o 3 (.alloc zI),o 4 (.alloc zI),s 2 3 11,s 2 4 12]
 (q [l 13 true 2 3,s 2 2 13]
 .ret)))⟩
def Tt:cy:=⟨38,[.cell 2 true 2],(q [o 1 (.box (.t 0)),o 2 (.alloc zI)]
 (.seq (q [l 8 true 2 1,c 9 194 [.t 8],bi 10 .eql 9 0]
 (k 10 (q [l 11 true 2 1,s 2 2 11]
 .ret)))
 (.seq (.cm [c 12 120 [i 2],w 13 true 2 1 1,c 14 199 [.t 13],bi 15 .add 14 1,bi 16 .quo 15 2,c 17 198 [.t 12,.t 16],o 3 (.alloc zI),s 2 3 17])
 (.block 0 (.loop (.block 1 (q [l 19 true 2 1,l 20 true 2 3,c 21 197 [.t 19,.t 20],v 18 21,e 22 18 0,e 23 18 1,o 4 (.alloc zI),o 5 (.alloc zI),s 2 4 22,s 2 5 23]
 (q [l 25 true 2 3,l 26 true 2 4,c 27 121 [.t 25,.t 26],c 28 120 [i 2],c 29 197 [.t 27,.t 28],v 24 29,e 30 24 0,e 31 24 1,o 6 (.alloc zI),o 7 (.alloc zI),s 2 6 30,s 2 7 31]
 (.seq (q [l 32 true 2 6,l 33 true 2 3,c 34 192 [.t 32,.t 33],bi 35 .geq 34 0]
 (k 35 (q [l 36 true 2 3,s 2 2 36]
 .ret)))
 (.cx [l 37 true 2 6,s 2 3 37]))))))))))⟩
def a119:cy:=⟨34,[.cell 4 true 4],(q [o 2 (.box (.t 0)),o 3 (.box (.t 1)),o 4 (.alloc zF)]
 (.seq (q [l 6 true 2 3,c 7 194 [.t 6],bi 8 .lss 7 0]
 (k 8 (.cm [w 9 true 2 2 0,c 10 200 [.t 9],w 11 true 2 3 2,c 12 200 [.t 11],s 2 2 10,s 2 3 12])))
 (.seq (q [fa 13 1 3,l 14 false 1 13,o 15 (.bin .eql .slice (.t 14) (.k (.aq))),v 16 15,g 17 (.jk 0 (.t 3)) 16 true,gl 18 false 1 17 16 true,gb 19 .eql (.t 18) (i 1) 16 true,pf 20 16 19]
 (k 20 (q [l 21 true 2 2,l 22 true 2 3,o 23 (.build zF [(0,2,(.t 21)),(2,2,(.t 22))]),s 4 4 23]
 .ret)))
 (q [l 24 true 2 2,l 25 true 2 3,c 26 190 [.t 24,.t 25],o 5 (.alloc zI),s 2 5 26]
 (.seq (.cm [w 27 true 2 2 0,w 28 true 2 5 1,c 29 201 [.t 27,.t 28],w 30 true 2 3 3,w 31 true 2 5 4,c 32 201 [.t 30,.t 31],o 33 (.build zF [(0,2,(.t 29)),(2,2,(.t 32))]),s 4 4 33])
 .ret)))))⟩
def LR:cy:=⟨5,[.cell 2 true 2],(q [o 2 (.alloc zI)]
 (q [v 3 0,o 4 (.build zI [(0,1,(.t 3))]),s 2 2 4]
 .ret))⟩
def Ca:cy:=⟨67,[.cell 4 true 2],(q [o 2 (.box (.t 0)),o 3 (.box (.t 1)),o 4 (.alloc zI)]
 (.seq (q [fa 10 1 2,l 11 false 1 10,o 12 (.bin .eql .slice (.t 11) (.k (.aq))),v 13 12,g 14 (.jk 1 (.t 3)) 13 true,gl 15 false 1 14 13 true,g 16 (.bin .eql .slice (.t 15) (.k (.aq))) 13 true,pf 17 13 16]
 (k 17 (q [fa 18 0 2,l 19 false 1 18,fa 20 0 3,l 21 false 1 20,bt 22 .add 19 21,v 5 22]
 (q [v 23 5,fa 24 0 2,l 25 false 1 24,bt 26 .gtr 23 25,fa 27 0 3,l 28 false 1 27,bi 29 .gtr 28 0,o 30 (.bin .eql .bool (.t 26) (.t 29))]
 (k 30 (q [v 31 5,o 32 (.build zI [(0,1,(.t 31))]),s 2 4 32]
 .ret))))))
 (q [l 34 true 2 2,c 35 202 [.t 34],v 33 35,e 36 33 0,e 37 33 1,v 6 36,v 7 37]
 (q [l 39 true 2 3,c 40 202 [.t 39],v 38 40,e 41 38 0,e 42 38 1,v 8 41,v 9 42]
 (.seq (.block 0 (q [v 44 6,v 45 8,o 46 (.bin .eql .bool (.t 44) (.t 45)),v 43 46]
 (.cond (.t 43) (q [v 47 6,v 48 7,v 49 9,c 50 204 [.t 48,.t 49],c 51 203 [.t 47,.t 50],s 2 4 51]
 .ret)
 (q [v 53 7,v 54 9,c 55 205 [.t 53,.t 54],bi 56 .geq 55 0,v 52 56]
 (k 52 (q [v 57 6,v 58 7,v 59 9,c 60 206 [.t 58,.t 59],c 61 203 [.t 57,.t 60],s 2 4 61]
 .ret))))))
 (q [v 62 8,v 63 9,v 64 7,c 65 206 [.t 63,.t 64],c 66 203 [.t 62,.t 65],s 2 4 66]
 .ret))))))⟩
def a130:cy:=⟨15,[.tmp 2],(q [vi 2 0]
 (.seq (q [v 5 0,ln 6 5,vi 7 0]
 (.block 0 (.loop (q [bt 8 .lss 7 6]
 (.seq (.cond (.t 8) .skip
 (.exit 0))
 (.seq (.block 1 (q [ix 9 1 5 7,l 10 false 1 9,v 4 10]
 (q [v 11 4,bi 12 .neq 11 0]
 (k 12 (q [v 13 4,v 2 13]
 .ret)))))
 (.cx [bi 14 .add 7 1,v 7 14])))))))
 (q [vi 2 0]
 .ret)))⟩
def a131:cy:=⟨7,[.tmp 4],(q [vi 4 0]
 (.seq (q [v 5 0]
 (k 5 (q [v 6 1,v 4 6]
 .ret)))
 (q [vi 4 0]
 .ret)))⟩
def Tq:cy:=⟨24,[.tmp 2],(q [vi 2 0]
 (q [v 5 0,c 6 210 [.t 5,(.k (.fn 211 []))],v 3 6]
 (q [v 7 0,c 8 210 [.t 7,(.k (.fn 212 []))],y 9 .not 8,v 4 9]
 (q [v 10 0,ln 11 10,bi 12 .eql 11 0,c 13 131 [.t 12,i 12],v 14 0,ln 15 14,bi 16 .gtr 15 256,c 17 131 [.t 16,i 5],v 18 3,c 19 131 [.t 18,i 3],v 20 4,c 21 131 [.t 20,i 6],o 22 (.cL 1 4 [.int .i64 0,.int .i64 0,.int .i64 0,.int .i64 0] [(0,1,(.t 13)),(1,1,(.t 17)),(2,1,(.t 19)),(3,1,(.t 21))]),c 23 130 [.t 22],v 2 23]
 .ret))))⟩
def To:cy:=⟨9,[],(.cx [v 4 0,v 5 0,ln 6 5,v 7 1,c 8 213 [.t 4,.t 6,.t 7]])⟩
def Tn:cy:=⟨15,[.tmp 5],(q [vi 5 0]
 (.seq (.cm [w 6 false 1 2 0,v 7 1,ix 8 1 6 7,w 9 false 1 8 3,w 10 false 1 2 4,v 11 0,ix 12 1 10 11,w 13 false 1 12 7,bt 14 .sub 9 13,v 5 14])
 .ret))⟩
def LJ:cy:=⟨18,[.tmp 2],(q [vi 2 0]
 (.seq (q [v 6 0,ln 7 6,vi 8 0]
 (.block 0 (.loop (q [bt 9 .lss 8 7]
 (.seq (.cond (.t 9) .skip
 (.exit 0))
 (.seq (.block 1 (q [ix 10 1 6 8,l 11 false 1 10,v 4 11]
 (q [v 12 4,c 13 101 [.t 12],v 5 13]
 (q [v 14 5,bi 15 .neq 14 0]
 (k 15 (q [v 16 5,v 2 16]
 .ret))))))
 (.cx [bi 17 .add 8 1,v 8 17])))))))
 (q [vi 2 0]
 .ret)))⟩
def LI:cy:=⟨23,[.tmp 2],(q [o 2 (.mv (.k (.aq)))]
 (q [v 6 0,ln 7 6,o 8 (.uN 4 64 zF (.t 7) (.t 7)),v 3 8]
 (.seq (q [v 9 0,ln 10 9,vi 11 0]
 (.block 0 (.loop (q [bt 12 .lss 11 10]
 (.seq (.cond (.t 12) .skip
 (.exit 0))
 (.seq (.block 1 (q [v 13 11,ix 14 1 9 11,l 15 false 1 14,v 4 13,v 5 15]
 (.cx [v 16 3,v 17 4,v 18 5,c 19 111 [.t 18],ix 20 4 16 17,s 4 20 19])))
 (.cx [bi 21 .add 11 1,v 11 21])))))))
 (q [v 22 3,v 2 22]
 .ret))))⟩
def a138:cy:=⟨144,[.tmp 4],(q [o 4 (.mv (.k (.bool false)))]
 (.seq .skip
 (q [vi 5 0]
 (.seq .skip
 (.seq (q [v 13 1,vi 14 0]
 (.block 0 (.loop (q [bt 15 .lss 14 13]
 (.seq (.cond (.t 15) .skip
 (.exit 0))
 (.seq (.block 1 (q [v 16 14,v 6 16]
 (q [v 17 5,v 7 17]
 (.seq (.block 2 (.loop (.block 3 (.seq (q [v 18 7,v 19 0,ln 20 19,bt 21 .eql 18 20]
 (k 21 (.exit 0)))
 (.seq (q [v 22 0,v 23 7,ix 24 1 22 23,l 25 false 1 24,v 26 6,ix 27 4 25 26,l 28 true 4 27,o 29 (.ER 148 (.t 28)),o 30 (.inv (.t 29) "Sign" []),bi 31 .neq 30 0]
 (k 31 (.exit 2)))
 (.cx [v 32 7,bi 33 .add 32 1,v 7 33]))))))
 (.seq (.cm [v 34 0,v 35 5,v 36 0,v 37 7,v 38 0,v 39 7,ix 40 1 38 39,w 41 false 1 40 7,v 42 0,v 43 5,ix 44 1 42 43,w 45 false 1 44 11,ix 46 1 34 35,s 1 46 41,ix 47 1 36 37,s 1 47 45])
 (q [v 48 0,v 49 5,ix 50 1 48 49,l 51 false 1 50,v 52 6,ix 53 4 51 52,l 54 true 4 53,o 55 (.ER 148 (.t 54)),o 56 (.inv (.t 55) "Inv" []),o 8 (.alloc zF),s 4 8 56]
 (.seq (q [v 57 0,v 58 5,ix 59 1 57 58,l 60 false 1 59,ln 61 60,vi 62 0]
 (.block 4 (.loop (q [bt 63 .lss 62 61]
 (.seq (.cond (.t 63) .skip
 (.exit 4))
 (.seq (.block 5 (q [v 64 62,v 9 64]
 (.cm [v 65 0,v 66 5,ix 67 1 65 66,w 68 false 1 67 14,v 69 9,v 70 0,v 71 5,ix 72 1 70 71,w 73 false 1 72 8,v 74 9,ix 75 4 73 74,w 76 true 4 75 11,o 77 (.ER 148 (.t 76)),w 78 true 4 8 13,o 79 (.inv (.t 77) "Mul" [.t 78]),ix 80 4 68 69,s 4 80 79])))
 (.cx [bi 81 .add 62 1,v 62 81])))))))
 (.seq (q [v 82 0,ln 83 82,vi 84 0]
 (.block 6 (.loop (q [bt 85 .lss 84 83]
 (.seq (.cond (.t 85) .skip
 (.exit 6))
 (.seq (.block 7 (q [v 86 84,v 10 86]
 (q [v 87 0,v 88 10,ix 89 1 87 88,l 90 false 1 89,v 91 6,ix 92 4 90 91,l 93 true 4 92,o 11 (.alloc zF),s 4 11 93]
 (q [v 94 0,v 95 10,ix 96 1 94 95,l 97 false 1 96,ln 98 97,vi 99 0]
 (.block 8 (.loop (q [bt 100 .lss 99 98]
 (.seq (.cond (.t 100) .skip
 (.exit 8))
 (.seq (.block 9 (q [v 101 99,v 12 101]
 (q [v 102 10,v 103 5,bt 104 .neq 102 103,v 105 104,gl 106 true 4 11 105 true,g 107 (.ER 148 (.t 106)) 105 true,g 108 (.inv (.t 107) "Sign" []) 105 true,gb 109 .neq (.t 108) (i 0) 105 true,pf 110 105 109]
 (k 110 (.cm [v 111 0,v 112 10,ix 113 1 111 112,w 114 false 1 113 23,v 115 12,v 116 0,v 117 10,ix 118 1 116 117,w 119 false 1 118 22,v 120 12,ix 121 4 119 120,w 122 true 4 121 22,o 123 (.ER 148 (.t 122)),w 124 true 4 11 13,o 125 (.ER 148 (.t 124)),v 126 0,v 127 5,ix 128 1 126 127,w 129 false 1 128 18,v 130 12,ix 131 4 129 130,w 132 true 4 131 21,o 133 (.inv (.t 125) "Mul" [.t 132]),o 134 (.inv (.t 123) "Sub" [.t 133]),ix 135 4 114 115,s 4 135 134])))))
 (.cx [bi 136 .add 99 1,v 99 136]))))))))))
 (.cx [bi 137 .add 84 1,v 84 137])))))))
 (.cx [v 138 5,bi 139 .add 138 1,v 5 139])))))))))
 (.cx [bi 140 .add 14 1,v 14 140])))))))
 (q [v 141 5,v 142 1,bt 143 .eql 141 142,v 4 143]
 .ret))))))⟩
def a139:cy:=⟨9,[.tmp 4],(q [o 4 (.mv (.k (.bool false)))]
 (q [v 5 0,v 6 1,c 7 215 [.t 5,.t 6],bi 8 .geq 7 0,v 4 8]
 .ret))⟩
def LH:cy:=⟨11,[.tmp 2],(q [o 1 (.box (.t 0)),o 2 (.mv (.k (.bool false)))]
 (q [fa 3 0 1,l 4 true 2 3,c 5 216 [.t 4],v 6 5,g 7 (.jk 2 (.t 1)) 6 false,gl 8 true 2 7 6 false,gc 9 216 [.t 8] 6 false,pt 10 6 9,v 2 10]
 .ret))⟩
def a141:cy:=⟨23,[.tmp 2],(q [o 2 (.mv (.k (.aq)))]
 (q [v 6 0,ln 7 6,o 8 (.uN 1 16 [.str []] (.t 7) (.t 7)),v 3 8]
 (.seq (q [v 9 0,ln 10 9,vi 11 0]
 (.block 0 (.loop (q [bt 12 .lss 11 10]
 (.seq (.cond (.t 12) .skip
 (.exit 0))
 (.seq (.block 1 (q [v 13 11,ix 14 4 9 11,l 15 true 4 14,o 5 (.alloc zF),v 4 13,s 4 5 15]
 (.cx [v 16 3,v 17 4,l 18 true 4 5,c 19 196 [.t 18],ix 20 1 16 17,s 1 20 19])))
 (.cx [bi 21 .add 11 1,v 11 21])))))))
 (q [v 22 3,v 2 22]
 .ret))))⟩
def a145:cy:=⟨16,[.tmp 4],(q [o 4 (.mv (.k (.str [])))]
 (q [v 6 0,c 7 220 [.t 6],v 5 7]
 (q [v 8 1,v 9 5,ls 10 9,bt 11 .sub 8 10,o 12 (.mx [i 0,.t 11]),c 13 221 [(.k (.str [48])),.t 12],v 14 5,bt 15 .add 13 14,v 4 15]
 .ret)))⟩
def a148:cy:=⟨25,[.tmp 4,.tmp 5],(q [vi 4 0,o 5 (.mv (.k (.bool false)))]
 (.seq (q [v 8 0,ls 9 8,v 10 1,bt 11 .neq 9 10,v 12 11,g 13 (m 0) 12 false,gc 14 223 [.t 13,(.k (.str [48,49,50,51,52,53,54,55,56,57]))] 12 false,gb 15 .neq (.t 14) (.k (.str [])) 12 false,pt 16 12 15]
 (k 16 (q [vi 4 0,o 5 (.mv (.k (.bool false)))]
 .ret)))
 (q [v 18 0,c 19 224 [.t 18],v 17 19,e 20 17 0,e 21 17 1,v 6 20,v 7 21]
 (.seq (.cm [v 22 6,v 23 7,o 24 (.bin .eql .iface (.t 23) (.k (.jD))),v 4 22,v 5 24])
 .ret))))⟩
def LF:cy:=⟨20,[.tmp 2],(q [o 2 (.mv (.k (.bool false)))]
 (.seq (q [vi 3 0]
 (.block 0 (.loop (.seq (q [v 4 3,v 5 0,ls 6 5,bt 7 .lss 4 6]
 (.cond (.t 7) .skip
 (.exit 0)))
 (.seq (.block 1 (q [v 10 0,v 11 3,o 12 (.idxs (.t 10) (.t 11)),b 13 .lss (.t 12) (.k (.int .u8 48)),v 14 13,g 15 (m 0) 14 false,g 16 (m 3) 14 false,g 17 (.idxs (.t 15) (.t 16)) 14 false,gb 18 .gtr (.t 17) (.k (.int .u8 57)) 14 false,pt 19 14 18]
 (k 19 (q [o 2 (.mv (.k (.bool false)))]
 .ret))))
 (.cx [v 8 3,bi 9 .add 8 1,v 3 9]))))))
 (q [o 2 (.mv (.k (.bool true)))]
 .ret)))⟩
def LD:cy:=⟨20,[.tmp 2],(q [vi 2 0]
 (q [vi 3 0]
 (.seq (q [vi 4 0]
 (.block 0 (.loop (.seq (q [v 5 4,v 6 0,ls 7 6,bt 8 .lss 5 7]
 (.cond (.t 8) .skip
 (.exit 0)))
 (.seq (.block 1 (.cx [v 11 3,b 12 .mul (i 10) (.t 11),v 13 0,v 14 4,o 15 (.idxs (.t 13) (.t 14)),o 16 (.sJ .i64 (.t 15)),bt 17 .add 12 16,bi 18 .sub 17 48,v 3 18]))
 (.cx [v 9 4,bi 10 .add 9 1,v 4 10]))))))
 (q [v 19 3,v 2 19]
 .ret))))⟩
def a154:cy:=⟨5,[.tmp 0],(q [o 0 (.mv (.k (.qW)))]
 (q [o 1 (.vF),o 2 (.build [.kg,.kg] [(0,1,(.k (.fn 227 []))),(1,1,(.k (.fn 229 [])))]),n (.yS (.t 1) (.k (.str [108,101,97,100])) (.t 2)),o 3 (.build [.kg,.kg] [(0,1,(.k (.fn 230 []))),(1,1,(.k (.fn 231 [])))]),n (.yS (.t 1) (.k (.str [98,111,117,108,100,101,114])) (.t 3)),v 4 1,v 0 4]
 .ret))⟩
def Tm:cy:=⟨56,[.cell 2 true 5,.tmp 3],(q [o 2 (.alloc [.str [],.int .i64 0,.bool false,.int .i64 0,.int .i64 0]),o 3 (.mv (.k (.bool false)))]
 (.seq (q [v 15 0,b 16 .eql (.t 15) (.k (.str [84,79,80]))]
 (k 16 (q [o 17 (.build [.str [],.int .i64 0,.bool false,.int .i64 0,.int .i64 0] [(0,1,(.k (.str [108,101,97,100]))),(3,1,(i 1))]),s 5 2 17,o 3 (.mv (.k (.bool true)))]
 .ret)))
 (.seq (q [v 19 0,c 20 147 [.t 19,(.k (.str [32]))],v 18 20,e 21 18 0,e 22 18 1,e 23 18 2,v 4 21,v 5 22,v 6 23]
 (q [v 24 6]
 (k 24 (q [v 26 4,c 27 238 [(.k (.str [84])),.t 26],v 25 27,e 28 25 0,e 29 25 1,v 7 28,v 8 29]
 (q [v 31 5,c 32 238 [(.k (.str [90])),.t 31],v 30 32,e 33 30 0,e 34 30 1,v 9 33,v 10 34]
 (q [v 35 7,v 36 9,o 37 (.build [.str [],.int .i64 0,.bool false,.int .i64 0,.int .i64 0] [(0,1,(.k (.str [98,111,117,108,100,101,114]))),(3,1,(.t 35)),(4,1,(.t 36))]),v 38 8,v 39 38,g 40 (m 10) 39 true,pf 41 39 40,s 5 2 37,v 3 41]
 .ret))))))
 (q [v 43 0,c 44 239 [.t 43,(.k (.str [43]))],v 42 44,e 45 42 0,e 46 42 1,v 11 45,v 12 46]
 (q [v 48 11,c 49 226 [.t 48],v 47 49,e 50 47 0,e 51 47 1,v 13 50,v 14 51]
 (q [v 52 13,v 53 12,o 54 (.build [.str [],.int .i64 0,.bool false,.int .i64 0,.int .i64 0] [(0,1,(.k (.str [108,101,97,100]))),(1,1,(.t 52)),(2,1,(.t 53))]),v 55 14,s 5 2 54,v 3 55]
 .ret))))))⟩
def a159:cy:=⟨10,[.tmp 2],(q [o 2 (.mv (.k (.str [])))]
 (.seq (q [v 3 0,ln 4 3,bi 5 .eql 4 0]
 (k 5 (q [o 2 (.mv (.k (.str [])))]
 .ret)))
 (q [v 6 0,o 7 (.iG 5 (.t 6) (i 0)),fa 8 0 7,l 9 false 1 8,v 2 9]
 .ret)))⟩
def Tl:cy:=⟨16,[.tmp 4],(q [o 2 (.box (.t 0)),o 3 (.box (.t 1)),vi 4 0]
 (.seq (.cm [fa 5 0 2,w 6 true 2 5 1,fa 7 2 3,w 8 true 2 7 3,c 9 195 [.t 6,.t 8],fa 10 0 3,w 11 true 2 10 6,fa 12 2 2,w 13 true 2 12 8,c 14 195 [.t 11,.t 13],c 15 192 [.t 9,.t 14],v 4 15])
 .ret))⟩
def B9:cy:=⟨34,[.cell 4 true 4],(q [o 2 (.box (.t 0)),o 3 (.box (.t 1)),o 4 (.alloc zF)]
 (.seq (q [l 5 true 4 2,c 6 241 [.t 5],v 7 6,gl 8 true 4 3 7 true,gc 9 241 [.t 8] 7 true,pf 10 7 9]
 (k 10 (q [fa 11 0 2,l 12 true 2 11,fa 13 0 3,l 14 true 2 13,c 15 121 [.t 12,.t 14],c 16 183 [.t 15],s 4 4 16]
 .ret)))
 (.seq (.cm [fa 17 0 2,w 18 true 2 17 1,fa 19 2 3,w 20 true 2 19 3,c 21 195 [.t 18,.t 20],fa 22 0 3,w 23 true 2 22 6,fa 24 2 2,w 25 true 2 24 8,c 26 195 [.t 23,.t 25],c 27 121 [.t 21,.t 26],fa 28 2 2,w 29 true 2 28 12,fa 30 2 3,w 31 true 2 30 14,c 32 195 [.t 29,.t 31],c 33 119 [.t 27,.t 32],s 4 4 33])
 .ret)))⟩
def a164:cy:=⟨9,[.cell 4 true 4],(q [o 2 (.box (.t 0)),o 3 (.box (.t 1)),o 4 (.alloc zF)]
 (.seq (.cm [w 5 true 4 2 2,w 6 true 4 3 1,c 7 242 [.t 6],c 8 163 [.t 5,.t 7],s 4 4 8])
 .ret))⟩
def Tj:cy:=⟨9,[.cell 4 true 4],(q [o 2 (.box (.t 0)),o 3 (.box (.t 1)),o 4 (.alloc zF)]
 (.seq (.cm [w 5 true 4 2 2,w 6 true 4 3 1,c 7 245 [.t 6],c 8 115 [.t 5,.t 7],s 4 4 8])
 .ret))⟩
def a175:cy:=⟨8,[.tmp 2,.tmp 3],(q [o 1 (.box (.t 0)),o 2 (.mv (.k (.str []))),vi 3 0]
 (.seq (q [l 4 true 4 1,c 5 140 [.t 4]]
 (k 5 (q [o 2 (.mv (.k (.str []))),vi 3 4]
 .ret)))
 (q [l 6 true 4 1,c 7 196 [.t 6],v 2 7,vi 3 0]
 .ret)))⟩
def Ti:cy:=⟨22,[.tmp 4],(q [o 2 (.box (.t 0)),o 3 (.box (.t 1)),vi 4 0]
 (q [fa 5 0 2,l 6 false 1 5,fa 7 0 3,l 8 false 1 7,bt 9 .mul 6 8,fa 10 1 2,l 11 false 1 10,fa 12 1 3,l 13 false 1 12,bt 14 .mul 11 13,bt 15 .add 9 14,fa 16 2 2,l 17 false 1 16,fa 18 2 3,l 19 false 1 18,bt 20 .mul 17 19,bt 21 .add 15 20,v 4 21]
 .ret))⟩
def Th:cy:=⟨19,[.tmp 2,.tmp 3],(q [vi 2 0,o 3 (.mv (.k (.bool false)))]
 (q [v 7 0,c 8 120 [.t 7],c 9 118 [.t 8],c 10 254 [.t 9],v 6 10,e 11 6 0,e 12 6 1,v 4 11,v 5 12]
 (q [v 13 4,v 14 4,v 15 4,bt 16 .mul 14 15,v 17 0,bt 18 .eql 16 17,v 2 13,v 3 18]
 .ret)))⟩
def a183:cy:=⟨6,[.cell 2 true 4],(q [o 1 (.box (.t 0)),o 2 (.alloc zF)]
 (.seq (.cm [w 3 true 2 1 1,c 4 120 [i 1],o 5 (.build zF [(0,2,(.t 3)),(2,2,(.t 4))]),s 4 2 5])
 .ret))⟩
def Lw:cy:=⟨25,[.tmp 4],(q [o 4 (.mv (.k (.str [])))]
 (q [o 5 (.mv (.k (.str [])))]
 (.seq (.block 0 (.loop (.seq (q [v 6 0,bi 7 .gtr 6 0,v 8 7,g 9 (m 5) 8 false,g 10 (.len .str (.t 9)) 8 false,g 11 (m 1) 8 false,gb 12 .lss (.t 10) (.t 11) 8 false,pt 13 8 12]
 (.cond (.t 13) .skip
 (.exit 0)))
 (.block 1 (q [v 14 0,bi 15 .rem 14 10,v 16 0,bi 17 .rem 16 10,bi 18 .add 17 1,o 19 (.qO (.k (.str [48,49,50,51,52,53,54,55,56,57])) (some (.t 15)) (some (.t 18))),v 20 5,bt 21 .add 19 20,v 5 21]
 (.cx [v 22 0,bi 23 .quo 22 10,v 0 23]))))))
 (q [v 24 5,v 4 24]
 .ret))))⟩
def EG:cy:=⟨19,[.tmp 2],(q [o 2 (.mv (.k (.bool false)))]
 (q [v 3 0,b 4 .neq (.t 3) (.k (.str [])),v 5 4,g 6 (m 0) 5 true,gc 7 223 [.t 6,(.k (.str [48,49,50,51,52,53,54,55,56,57]))] 5 true,gb 8 .eql (.t 7) (.k (.str [])) 5 true,pf 9 5 8,v 10 9,g 11 (m 0) 10 true,g 12 (.idxs (.t 11) (i 0)) 10 true,gb 13 .neq (.t 12) (.k (.int .u8 48)) 10 true,g 14 (m 13) 10 true,g 15 (m 0) 14 false,gb 16 .eql (.t 15) (.k (.str [48])) 14 false,g 17 (.pick (.t 14) (.k (.bool true)) (.t 16)) 10 true,pf 18 10 17,v 2 18]
 .ret))⟩
def Lv:cy:=⟨23,[.cell 4 true 2],(q [o 2 (.box (.t 0)),o 3 (.box (.t 1)),o 4 (.alloc zI)]
 (.seq (.cm [w 7 true 2 2 0,c 8 257 [.t 7],w 9 true 2 3 2,c 10 257 [.t 9],s 2 2 8,s 2 3 10])
 (.seq (.block 0 (.loop (.seq (q [l 11 true 2 3,c 12 194 [.t 11],bi 13 .neq 12 0]
 (.cond (.t 13) .skip
 (.exit 0)))
 (.block 1 (q [l 15 true 2 2,l 16 true 2 3,c 17 197 [.t 15,.t 16],v 14 17,e 18 14 0,e 19 14 1,o 5 (.alloc zI),o 6 (.alloc zI),s 2 5 18,s 2 6 19]
 (.cm [w 20 true 2 3 0,w 21 true 2 6 2,s 2 2 20,s 2 3 21]))))))
 (q [l 22 true 2 2,s 2 4 22]
 .ret))))⟩
def Lu:cy:=⟨41,[.cell 2 true 2],(q [o 2 (.alloc zI)]
 (q [v 8 0,c 9 258 [.t 8,(.k (.str [45]))],v 3 9]
 (q [v 10 0,c 11 259 [.t 10,(.k (.str [45]))],v 0 11]
 (q [o 12 (.build zI []),o 4 (.alloc zI),s 2 4 12]
 (.seq (.block 0 (.loop (.seq (q [v 13 0,ls 14 13,bi 15 .gtr 14 0]
 (.cond (.t 15) .skip
 (.exit 0)))
 (.block 1 (q [v 16 0,ls 17 16,o 18 (.mn [i 18,.t 17]),v 5 18]
 (q [v 20 0,v 21 5,o 22 (.qO (.t 20) none (some (.t 21))),c 23 224 [.t 22],v 19 23,e 24 19 0,e 25 19 1,v 6 24,v 7 25]
 (.seq (.cm [w 26 true 2 4 3,c 27 120 [i 10],v 28 5,c 29 198 [.t 27,.t 28],c 30 195 [.t 26,.t 29],v 31 6,c 32 120 [.t 31],c 33 121 [.t 30,.t 32],s 2 4 33])
 (.cx [v 34 0,v 35 5,o 36 (.qO (.t 34) (some (.t 35)) none),v 0 36]))))))))
 (.seq (q [v 37 3]
 (k 37 (q [l 38 true 2 4,c 39 200 [.t 38],s 2 2 39]
 .ret)))
 (q [l 40 true 2 4,s 2 2 40]
 .ret)))))))⟩
def Ai:cy:=⟨29,[.tmp 4],(q [o 2 (.box (.t 0)),o 3 (.box (.t 1)),vi 4 0]
 (.seq (q [fa 5 1 2,l 6 false 1 5,o 7 (.bin .eql .slice (.t 6) (.k (.aq))),v 8 7,g 9 (.jk 1 (.t 3)) 8 true,gl 10 false 1 9 8 true,g 11 (.bin .eql .slice (.t 10) (.k (.aq))) 8 true,pf 12 8 11]
 (k 12 (.seq (.block 0 (q [fa 14 0 2,l 15 false 1 14,fa 16 0 3,l 17 false 1 16,bt 18 .lss 15 17,v 13 18]
 (.cond (.t 13) (q [vi 4 (-1)]
 .ret)
 (q [fa 20 0 2,l 21 false 1 20,fa 22 0 3,l 23 false 1 22,bt 24 .gtr 21 23,v 19 24]
 (k 19 (q [vi 4 1]
 .ret))))))
 (q [vi 4 0]
 .ret))))
 (q [l 25 true 2 2,l 26 true 2 3,c 27 260 [.t 25,.t 26],c 28 194 [.t 27],v 4 28]
 .ret)))⟩
def a194:cy:=⟨7,[.tmp 2],(q [o 1 (.box (.t 0)),vi 2 0]
 (q [fa 3 0 1,l 4 false 1 3,o 5 (.mn [i 1,.t 4]),o 6 (.mx [i (-1),.t 5]),v 2 6]
 .ret))⟩
def pP:cy:=⟨66,[.cell 4 true 2],(q [o 2 (.box (.t 0)),o 3 (.box (.t 1)),o 4 (.alloc zI)]
 (.seq (q [fa 11 1 2,l 12 false 1 11,o 13 (.bin .eql .slice (.t 12) (.k (.aq))),v 14 13,g 15 (.jk 1 (.t 3)) 14 true,gl 16 false 1 15 14 true,g 17 (.bin .eql .slice (.t 16) (.k (.aq))) 14 true,pf 18 14 17]
 (k 18 (.seq (.cm [fa 20 0 2,w 21 false 1 20 1,c 22 262 [.t 21],fa 23 0 3,w 24 false 1 23 4,c 25 262 [.t 24],c 26 261 [.t 22,.t 25],v 19 26,e 27 19 0,e 28 19 1,v 5 27,v 6 28])
 (q [v 29 5,b 30 .eql (.t 29) (u 0),v 31 30,g 32 (m 6) 31 true,gb 33 .leq (.t 32) (u 9223372036854775807) 31 true,pf 34 31 33]
 (k 34 (.seq (q [fa 35 0 2,l 36 false 1 35,bi 37 .lss 36 0,fa 38 0 3,l 39 false 1 38,bi 40 .lss 39 0,o 41 (.bin .neq .bool (.t 37) (.t 40))]
 (k 41 (q [v 42 6,o 43 (.sJ .i64 (.t 42)),y 44 .neg 43,o 45 (.build zI [(0,1,(.t 44))]),s 2 4 45]
 .ret)))
 (q [v 46 6,o 47 (.sJ .i64 (.t 46)),o 48 (.build zI [(0,1,(.t 47))]),s 2 4 48]
 .ret)))))))
 (q [l 50 true 2 2,c 51 202 [.t 50],v 49 51,e 52 49 0,e 53 49 1,v 7 52,v 8 53]
 (q [l 55 true 2 3,c 56 202 [.t 55],v 54 56,e 57 54 0,e 58 54 1,v 9 57,v 10 58]
 (q [v 59 7,v 60 9,o 61 (.bin .neq .bool (.t 59) (.t 60)),v 62 8,v 63 10,c 64 263 [.t 62,.t 63],c 65 203 [.t 61,.t 64],s 2 4 65]
 .ret)))))⟩
def a196:cy:=⟨16,[.tmp 2],(q [o 1 (.box (.t 0)),o 2 (.mv (.k (.str [])))]
 (.seq (q [l 3 true 4 1,c 4 241 [.t 3]]
 (k 4 (q [fa 5 0 1,l 6 true 2 5,c 7 264 [.t 6],v 2 7]
 .ret)))
 (.seq (.cm [fa 8 0 1,w 9 true 2 8 1,c 10 264 [.t 9],b 11 .add (.t 10) (.k (.str [47])),fa 12 2 1,w 13 true 2 12 5,c 14 264 [.t 13],bt 15 .add 11 14,v 2 15])
 .ret)))⟩
def pO:cy:=⟨84,[.cell 4 true 2,.cell 5 true 2],(q [o 2 (.box (.t 0)),o 3 (.box (.t 1)),o 4 (.alloc zI),o 5 (.alloc zI)]
 (.seq (q [fa 16 1 2,l 17 false 1 16,o 18 (.bin .eql .slice (.t 17) (.k (.aq))),v 19 18,g 20 (.jk 1 (.t 3)) 19 true,gl 21 false 1 20 19 true,g 22 (.bin .eql .slice (.t 21) (.k (.aq))) 19 true,pf 23 19 22,v 24 23,g 25 (.jk 0 (.t 2)) 24 true,gl 26 false 1 25 24 true,gb 27 .neq (.t 26) (i (-9223372036854775808)) 24 true,pf 28 24 27]
 (k 28 (.seq (.cm [fa 29 0 2,w 30 false 1 29 1,fa 31 0 3,w 32 false 1 31 3,bt 33 .quo 30 32,fa 34 0 2,w 35 false 1 34 6,fa 36 0 3,w 37 false 1 36 8,bt 38 .rem 35 37,v 6 33,v 7 38])
 (.seq (q [v 39 7,bi 40 .lss 39 0]
 (k 40 (.cm [v 41 6,bi 42 .sub 41 1,v 43 7,fa 44 0 3,w 45 false 1 44 4,bt 46 .add 43 45,v 6 42,v 7 46])))
 (q [v 47 6,o 48 (.build zI [(0,1,(.t 47))]),v 49 7,o 50 (.build zI [(0,1,(.t 49))]),s 2 4 48,s 2 5 50]
 .ret)))))
 (q [l 52 true 2 2,c 53 202 [.t 52],v 51 53,e 54 51 0,e 55 51 1,v 8 54,v 9 55]
 (q [l 57 true 2 3,c 58 202 [.t 57],v 56 58,e 59 56 0,e 60 56 1,v 10 59,v 11 60]
 (q [v 62 9,v 63 11,c 64 265 [.t 62,.t 63],v 61 64,e 65 61 0,e 66 61 1,v 12 65,v 13 66]
 (q [v 67 8,v 68 12,c 69 203 [.t 67,.t 68],v 70 8,v 71 13,c 72 203 [.t 70,.t 71],o 14 (.alloc zI),o 15 (.alloc zI),s 2 14 69,s 2 15 72]
 (.seq (q [l 73 true 2 15,c 74 194 [.t 73],bi 75 .lss 74 0]
 (k 75 (.cm [w 76 true 2 14 1,c 77 120 [i 1],c 78 260 [.t 76,.t 77],w 79 true 2 15 3,w 80 true 2 3 4,c 81 121 [.t 79,.t 80],s 2 14 78,s 2 15 81])))
 (.seq (.cm [w 82 true 2 14 0,w 83 true 2 15 2,s 2 4 82,s 2 5 83])
 .ret))))))))⟩
def a198:cy:=⟨23,[.cell 4 true 2],(q [o 2 (.box (.t 0)),o 4 (.alloc zI)]
 (q [c 6 120 [i 1],o 5 (.alloc zI),s 2 5 6]
 (.seq (.block 0 (.loop (.seq (q [v 7 1,bi 8 .gtr 7 0]
 (.cond (.t 8) .skip
 (.exit 0)))
 (.seq (.block 1 (.seq (q [v 11 1,bi 12 .and 11 1,bi 13 .eql 12 1]
 (k 13 (.cx [l 14 true 2 5,l 15 true 2 2,c 16 195 [.t 14,.t 15],s 2 5 16])))
 (q [v 17 1,bi 18 .gtr 17 1]
 (k 18 (.cx [l 19 true 2 2,l 20 true 2 2,c 21 195 [.t 19,.t 20],s 2 2 21])))))
 (.cx [v 9 1,b 10 .shr (.t 9) (u 1),v 1 10])))))
 (q [l 22 true 2 5,s 2 4 22]
 .ret))))⟩
def Lt:cy:=⟨25,[.tmp 2],(q [o 1 (.box (.t 0)),vi 2 0]
 (q [l 6 true 2 1,c 7 202 [.t 6],v 5 7,e 8 5 0,e 9 5 1,v 3 8,v 4 9]
 (.seq (q [v 10 4,ln 11 10,bi 12 .eql 11 0]
 (k 12 (q [vi 2 0]
 .ret)))
 (q [v 13 4,ln 14 13,bi 15 .sub 14 1,b 16 .mul (i 64) (.t 15),v 17 4,v 18 4,ln 19 18,bi 20 .sub 19 1,ix 21 1 17 20,l 22 false 1 21,c 23 266 [.t 22],bt 24 .add 16 23,v 2 24]
 .ret))))⟩
def Ls:cy:=⟨26,[.cell 2 true 2],(q [o 1 (.box (.t 0)),o 2 (.alloc zI)]
 (.seq (q [fa 5 1 1,l 6 false 1 5,o 7 (.bin .eql .slice (.t 6) (.k (.aq))),v 8 7,g 9 (.jk 0 (.t 1)) 8 true,gl 10 false 1 9 8 true,gb 11 .neq (.t 10) (i (-9223372036854775808)) 8 true,pf 12 8 11]
 (k 12 (q [fa 13 0 1,l 14 false 1 13,y 15 .neg 14,o 16 (.build zI [(0,1,(.t 15))]),s 2 2 16]
 .ret)))
 (q [l 18 true 2 1,c 19 202 [.t 18],v 17 19,e 20 17 0,e 21 17 1,v 3 20,v 4 21]
 (q [v 22 3,y 23 .not 22,v 24 4,c 25 203 [.t 23,.t 24],s 2 2 25]
 .ret))))⟩
def a201:cy:=⟨21,[.cell 4 true 2],(q [o 2 (.box (.t 0)),o 3 (.box (.t 1)),o 4 (.alloc zI)]
 (.seq (q [l 7 true 2 3,c 8 194 [.t 7],bi 9 .lss 8 0]
 (k 9 (.cm [w 10 true 2 2 0,c 11 200 [.t 10],w 12 true 2 3 2,c 13 200 [.t 12],s 2 2 11,s 2 3 13])))
 (q [l 15 true 2 2,l 16 true 2 3,c 17 197 [.t 15,.t 16],v 14 17,e 18 14 0,e 19 14 1,o 5 (.alloc zI),o 6 (.alloc zI),s 2 5 18,s 2 6 19]
 (q [l 20 true 2 5,s 2 4 20]
 .ret))))⟩
def Lq:cy:=⟨24,[.tmp 2,.tmp 3],(q [o 1 (.box (.t 0)),o 2 (.mv (.k (.bool false))),o 3 (.mv (.k (.aq)))]
 (.seq (.block 0 (q [fa 5 1 1,l 6 false 1 5,o 7 (.bin .neq .slice (.t 6) (.k (.aq))),v 4 7]
 (.cond (.t 4) (.seq (.cm [fa 8 0 1,w 9 false 1 8 1,bi 10 .lss 9 0,fa 11 1 1,w 12 false 1 11 4,v 2 10,v 3 12])
 .ret)
 (q [fa 14 0 1,l 15 false 1 14,bi 16 .eql 15 0,v 13 16]
 (k 13 (q [o 2 (.mv (.k (.bool false))),o 3 (.mv (.k (.aq)))]
 .ret))))))
 (.seq (.cm [fa 17 0 1,w 18 false 1 17 6,bi 19 .lss 18 0,fa 20 0 1,w 21 false 1 20 4,c 22 262 [.t 21],o 23 (.cL 1 1 [.int .u64 0] [(0,1,(.t 22))]),v 2 19,v 3 23])
 .ret)))⟩
def a203:cy:=⟨50,[.cell 4 true 2],(q [o 4 (.alloc zI)]
 (.seq (.block 0 (q [v 6 1,ln 7 6,bi 8 .eql 7 0,v 5 8]
 (.cond (.t 5) (q [o 9 (.build zI []),s 2 4 9]
 .ret)
 (q [v 11 1,ln 12 11,bi 13 .eql 12 1,v 14 13,g 15 (m 1) 14 true,g 16 (.iG 1 (.t 15) (i 0)) 14 true,gl 17 false 1 16 14 true,gb 18 .leq (.t 17) (u 9223372036854775807) 14 true,pf 19 14 18,v 20 19,g 21 (m 0) 20 true,pf 22 20 21,v 10 22]
 (.cond (.t 10) (q [v 23 1,o 24 (.iG 1 (.t 23) (i 0)),l 25 false 1 24,o 26 (.sJ .i64 (.t 25)),y 27 .neg 26,o 28 (.build zI [(0,1,(.t 27))]),s 2 4 28]
 .ret)
 (q [v 30 1,ln 31 30,bi 32 .eql 31 1,v 33 32,g 34 (m 1) 33 true,g 35 (.iG 1 (.t 34) (i 0)) 33 true,gl 36 false 1 35 33 true,gb 37 .leq (.t 36) (u 9223372036854775807) 33 true,pf 38 33 37,v 29 38]
 (.cond (.t 29) (q [v 39 1,o 40 (.iG 1 (.t 39) (i 0)),l 41 false 1 40,o 42 (.sJ .i64 (.t 41)),o 43 (.build zI [(0,1,(.t 42))]),s 2 4 43]
 .ret)
 (q [v 45 0,v 44 45]
 (k 44 (q [v 46 1,o 47 (.build zI [(0,1,(i (-1))),(1,1,(.t 46))]),s 2 4 47]
 .ret))))))))))
 (q [v 48 1,o 49 (.build zI [(0,1,(i 1)),(1,1,(.t 48))]),s 2 4 49]
 .ret)))⟩
def xG:cy:=⟨54,[.tmp 4],(q [o 4 (.mv (.k (.aq)))]
 (.seq (q [v 9 0,ln 10 9,v 11 1,ln 12 11,bt 13 .lss 10 12]
 (k 13 (.cx [v 14 1,v 15 0,v 0 14,v 1 15])))
 (q [v 16 0,ln 17 16,bi 18 .add 17 1,o 19 (.uN 1 8 [.int .u64 0] (.t 18) (.t 18)),v 5 19]
 (q [o 6 (.mv (u 0))]
 (.seq (q [v 20 0,ln 21 20,vi 22 0]
 (.block 0 (.loop (q [bt 23 .lss 22 21]
 (.seq (.cond (.t 23) .skip
 (.exit 0))
 (.seq (.block 1 (q [v 24 22,v 7 24]
 (q [o 8 (.mv (u 0))]
 (.seq (q [v 25 7,v 26 1,ln 27 26,bt 28 .lss 25 27]
 (k 28 (.cx [v 29 1,v 30 7,ix 31 1 29 30,l 32 false 1 31,v 8 32])))
 (.cx [v 34 5,v 35 7,v 36 0,v 37 7,ix 38 1 36 37,l 39 false 1 38,v 40 8,v 41 6,c 42 267 [.t 39,.t 40,.t 41],v 33 42,e 43 33 0,e 44 33 1,ix 45 1 34 35,s 1 45 43,v 6 44])))))
 (.cx [bi 46 .add 22 1,v 22 46])))))))
 (q [v 47 5,v 48 0,ln 49 48,v 50 6,ix 51 1 47 49,s 1 51 50]
 (q [v 52 5,c 53 268 [.t 52],v 4 53]
 .ret)))))))⟩
def Lp:cy:=⟨41,[.tmp 4],(q [vi 4 0]
 (.seq (q [v 6 0,ln 7 6,v 8 1,ln 9 8,bt 10 .neq 7 9]
 (k 10 (.seq (q [v 11 0,ln 12 11,v 13 1,ln 14 13,bt 15 .lss 12 14]
 (k 15 (q [vi 4 (-1)]
 .ret)))
 (q [vi 4 1]
 .ret))))
 (.seq (q [v 16 0,ln 17 16,bi 18 .sub 17 1,v 5 18]
 (.block 0 (.loop (.seq (q [v 19 5,bi 20 .geq 19 0]
 (.cond (.t 20) .skip
 (.exit 0)))
 (.seq (.block 1 (.seq (.cm [v 23 0,v 24 5,ix 25 1 23 24,w 26 false 1 25 3,v 27 1,v 28 5,ix 29 1 27 28,w 30 false 1 29 7,bt 31 .neq 26 30])
 (k 31 (.seq (.seq (.cm [v 32 0,v 33 5,ix 34 1 32 33,w 35 false 1 34 3,v 36 1,v 37 5,ix 38 1 36 37,w 39 false 1 38 7,bt 40 .lss 35 39])
 (k 40 (q [vi 4 (-1)]
 .ret)))
 (q [vi 4 1]
 .ret)))))
 (.cx [v 21 5,bi 22 .sub 21 1,v 5 22]))))))
 (q [vi 4 0]
 .ret))))⟩
def a206:cy:=⟨41,[.tmp 4],(q [o 4 (.mv (.k (.aq)))]
 (q [v 9 0,ln 10 9,o 11 (.uN 1 8 [.int .u64 0] (.t 10) (.t 10)),v 5 11]
 (q [o 6 (.mv (u 0))]
 (.seq (q [v 12 0,ln 13 12,vi 14 0]
 (.block 0 (.loop (q [bt 15 .lss 14 13]
 (.seq (.cond (.t 15) .skip
 (.exit 0))
 (.seq (.block 1 (q [v 16 14,v 7 16]
 (q [o 8 (.mv (u 0))]
 (.seq (q [v 17 7,v 18 1,ln 19 18,bt 20 .lss 17 19]
 (k 20 (.cx [v 21 1,v 22 7,ix 23 1 21 22,l 24 false 1 23,v 8 24])))
 (.cx [v 26 5,v 27 7,v 28 0,v 29 7,ix 30 1 28 29,l 31 false 1 30,v 32 8,v 33 6,c 34 269 [.t 31,.t 32,.t 33],v 25 34,e 35 25 0,e 36 25 1,ix 37 1 26 27,s 1 37 35,v 6 36])))))
 (.cx [bi 38 .add 14 1,v 14 38])))))))
 (q [v 39 5,c 40 268 [.t 39],v 4 40]
 .ret)))))⟩
def a210:cy:=⟨9,[.tmp 4],(q [o 4 (.mv (.k (.bool false)))]
 (q [v 5 0,v 6 1,c 7 273 [.t 5,.t 6],bi 8 .geq 7 0,v 4 8]
 .ret))⟩
def Tg:cy:=⟨9,[.tmp 2],(q [o 2 (.mv (.k (.bool false)))]
 (q [v 3 0,bi 4 .lss 3 0,v 5 4,g 6 (m 0) 5 false,gb 7 .gtr (.t 6) (i 999999999) 5 false,pt 8 5 7,v 2 8]
 .ret))⟩
def a212:cy:=⟨5,[.tmp 2],(q [o 2 (.mv (.k (.bool false)))]
 (q [v 3 0,bi 4 .neq 3 0,v 2 4]
 .ret))⟩
def a213:cy:=⟨63,[],(q [vi 6 20]
 (q [v 10 6,vi 7 0,v 8 10]
 (.seq (.block 0 (.loop (.seq (q [v 11 8,v 12 1,bt 13 .leq 11 12]
 (.cond (.t 13) .skip
 (.exit 0)))
 (.block 1 (q [v 14 0,v 15 7,v 16 8,v 17 2,c 18 274 [.t 14,.t 15,.t 16,.t 17]]
 (q [v 19 8,v 7 19]
 (.cx [v 20 8,v 21 6,bt 22 .add 20 21,v 8 22])))))))
 (q [v 23 0,v 24 7,v 25 1,v 26 2,c 27 274 [.t 23,.t 24,.t 25,.t 26]]
 (.block 2 (.loop (.seq (q [v 28 6,v 29 1,bt 30 .lss 28 29]
 (.cond (.t 30) .skip
 (.exit 2)))
 (.block 3 (q [v 31 6,b 32 .mul (i 2) (.t 31),vi 7 0,v 8 32]
 (.seq (.block 4 (.loop (.seq (q [v 33 8,v 34 1,bt 35 .leq 33 34]
 (.cond (.t 35) .skip
 (.exit 4)))
 (.block 5 (q [v 36 0,v 37 7,v 38 7,v 39 6,bt 40 .add 38 39,v 41 8,v 42 2,c 43 275 [.t 36,.t 37,.t 40,.t 41,.t 42]]
 (q [v 44 8,v 7 44]
 (.cx [v 45 8,v 46 6,b 47 .mul (i 2) (.t 46),bt 48 .add 45 47,v 8 48])))))))
 (.seq (q [v 49 7,v 50 6,bt 51 .add 49 50,v 9 51]
 (q [v 52 9,v 53 1,bt 54 .lss 52 53]
 (k 54 (.cx [v 55 0,v 56 7,v 57 9,v 58 1,v 59 2,c 60 275 [.t 55,.t 56,.t 57,.t 58,.t 59]]))))
 (.cx [v 61 6,bi 62 .mul 61 2,v 6 62]))))))))))))⟩
def Ln:cy:=⟨19,[.tmp 4],(q [vi 4 0]
 (.seq (q [v 6 0,ln 7 6,vi 8 0]
 (.block 0 (.loop (q [bt 9 .lss 8 7]
 (.seq (.cond (.t 9) .skip
 (.exit 0))
 (.seq (.block 1 (q [v 10 8,v 5 10]
 (q [v 11 1,v 12 0,v 13 5,ix 14 4 12 13,l 15 true 4 14,o 16 (.gQ (.t 11) [.t 15])]
 (k 16 (q [v 17 5,v 4 17]
 .ret)))))
 (.cx [bi 18 .add 8 1,v 8 18])))))))
 (q [vi 4 (-1)]
 .ret)))⟩
def Lm:cy:=⟨13,[.tmp 2],(q [o 1 (.box (.t 0)),o 2 (.mv (.k (.bool false)))]
 (q [l 3 true 2 1,c 4 199 [.t 3],bi 5 .gtr 4 1800,v 6 5,gl 7 true 2 1 6 true,gc 8 264 [.t 7] 6 true,gc 9 259 [.t 8,(.k (.str [45]))] 6 true,g 10 (.len .str (.t 9)) 6 true,gb 11 .gtr (.t 10) (i 600) 6 true,pf 12 6 11,v 2 12]
 .ret))⟩
def a226:cy:=⟨22,[.tmp 2,.tmp 3],(q [vi 2 0,o 3 (.mv (.k (.bool false)))]
 (.seq (q [v 6 0,c 7 189 [.t 6],y 8 .not 7,v 9 8,g 10 (m 0) 9 false,g 11 (.len .str (.t 10)) 9 false,gb 12 .gtr (.t 11) (i 9) 9 false,pt 13 9 12]
 (k 13 (q [vi 2 0,o 3 (.mv (.k (.bool false)))]
 .ret)))
 (q [v 15 0,c 16 224 [.t 15],v 14 16,e 17 14 0,e 18 14 1,v 4 17,v 5 18]
 (.seq (.cm [v 19 4,v 20 5,o 21 (.bin .eql .iface (.t 20) (.k (.jD))),v 2 19,v 3 21])
 .ret))))⟩
def a227:cy:=⟨32,[.tmp 2],(q [o 1 (.box (.t 0)),vi 2 0]
 (.seq (.cm [fa 3 1 1,w 4 false 1 3 1,c 5 228 [.t 4,i 64],v 6 5,g 7 (.jk 3 (.t 1)) 6 false,x 8 false 1 7 6 false 5,gc 9 228 [.t 8,i 1] 6 false,pt 10 6 9,v 11 10,g 12 (.jk 4 (.t 1)) 11 false,x 13 false 1 12 11 false 10,gb 14 .neq (.t 13) (i 0) 11 false,pt 15 11 14,c 16 131 [.t 15,i 3],fa 17 3 1,w 18 false 1 17 15,bi 19 .eql 18 1,v 20 19,g 21 (.jk 2 (.t 1)) 20 true,x 22 false 1 21 20 true 19,g 23 (m 22) 20 true,g 24 (.jk 1 (.t 1)) 23 false,x 25 false 1 24 23 false 22,gb 26 .neq (.t 25) (i 0) 23 false,g 27 (.pick (.t 23) (.k (.bool true)) (.t 26)) 20 true,pf 28 20 27,c 29 131 [.t 28,i 1],o 30 (.cL 1 2 [.int .i64 0,.int .i64 0] [(0,1,(.t 16)),(1,1,(.t 29))]),c 31 130 [.t 30],v 2 31])
 .ret))⟩
def a228:cy:=⟨12,[.tmp 4],(q [o 4 (.mv (.k (.bool false)))]
 (q [v 5 0,bi 6 .lss 5 0,v 7 6,g 8 (m 0) 7 false,g 9 (m 1) 7 false,gb 10 .gtr (.t 8) (.t 9) 7 false,pt 11 7 10,v 4 11]
 .ret))⟩
def a229:cy:=⟨17,[.tmp 2],(q [o 1 (.box (.t 0)),o 2 (.mv (.k (.str [])))]
 (.seq (.block 0 (q [fa 4 3 1,l 5 false 1 4,bi 6 .eql 5 1,v 3 6]
 (.cond (.t 3) (q [o 2 (.mv (.k (.str [84,79,80])))]
 .ret)
 (q [fa 8 2 1,l 9 false 1 8,v 7 9]
 (k 7 (q [fa 10 1 1,l 11 false 1 10,c 12 145 [.t 11,i 1],b 13 .add (.t 12) (.k (.str [43])),v 2 13]
 .ret))))))
 (q [fa 14 1 1,l 15 false 1 14,c 16 145 [.t 15,i 1],v 2 16]
 .ret)))⟩
def Tf:cy:=⟨39,[.tmp 2],(q [o 1 (.box (.t 0)),vi 2 0]
 (.seq (.cm [fa 3 1 1,w 4 false 1 3 1,bi 5 .neq 4 0,v 6 5,g 7 (.jk 3 (.t 1)) 6 false,x 8 false 1 7 6 false 5,gc 9 228 [.t 8,i 99] 6 false,pt 10 6 9,v 11 10,g 12 (.jk 4 (.t 1)) 11 false,x 13 false 1 12 11 false 10,gc 14 228 [.t 13,i 99] 11 false,pt 15 11 14,c 16 131 [.t 15,i 3],fa 17 2 1,w 18 false 1 17 15,v 19 18,g 20 (.jk 3 (.t 1)) 19 false,x 21 false 1 20 19 false 18,gb 22 .gtr (.t 21) (i 0) 19 false,g 23 (m 22) 19 false,g 24 (.jk 4 (.t 1)) 23 true,x 25 false 1 24 23 true 22,gb 26 .eql (.t 25) (i 0) 23 true,g 27 (m 26) 23 true,g 28 (.jk 4 (.t 1)) 27 false,x 29 false 1 28 27 false 26,g 30 (.jk 3 (.t 1)) 27 false,x 31 false 1 30 27 false 28,gb 32 .gtr (.t 29) (.t 31) 27 false,g 33 (.pick (.t 27) (.k (.bool true)) (.t 32)) 23 true,g 34 (.pick (.t 23) (.t 33) (.k (.bool false))) 19 false,pt 35 19 34,c 36 131 [.t 35,i 1],o 37 (.cL 1 2 [.int .i64 0,.int .i64 0] [(0,1,(.t 16)),(1,1,(.t 36))]),c 38 130 [.t 37],v 2 38])
 .ret))⟩
def Te:cy:=⟨11,[.tmp 2],(q [o 1 (.box (.t 0)),o 2 (.mv (.k (.str [])))]
 (.seq (.cm [fa 3 3 1,w 4 false 1 3 1,c 5 232 [(.k (.str [84])),.t 4],b 6 .add (.t 5) (.k (.str [32])),fa 7 4 1,w 8 false 1 7 5,c 9 232 [(.k (.str [90])),.t 8],bt 10 .add 6 9,v 2 10])
 .ret))⟩
def a232:cy:=⟨11,[.tmp 4],(q [o 4 (.mv (.k (.str [])))]
 (.seq (q [v 5 1,bi 6 .eql 5 0]
 (k 6 (q [o 4 (.mv (.k (.str [45])))]
 .ret)))
 (q [v 7 0,v 8 1,c 9 145 [.t 8,i 1],bt 10 .add 7 9,v 4 10]
 .ret)))⟩
def Td:cy:=⟨32,[.tmp 4,.tmp 5],(q [vi 4 0,o 5 (.mv (.k (.bool false)))]
 (.seq (q [v 10 1,b 11 .eql (.t 10) (.k (.str [45]))]
 (k 11 (q [vi 4 0,o 5 (.mv (.k (.bool true)))]
 .ret)))
 (q [v 13 1,v 14 0,c 15 188 [.t 13,.t 14],v 12 15,e 16 12 0,e 17 12 1,v 6 16,v 7 17]
 (q [v 19 6,c 20 226 [.t 19],v 18 20,e 21 18 0,e 22 18 1,v 8 21,v 9 22]
 (q [v 23 8,v 24 7,v 25 24,g 26 (m 9) 25 true,pf 27 25 26,v 28 27,g 29 (m 8) 28 true,gb 30 .gtr (.t 29) (i 0) 28 true,pf 31 28 30,v 4 23,v 5 31]
 .ret)))))⟩
def Li:cy:=⟨13,[.tmp 2],(q [o 1 (.box (.t 0)),o 2 (.mv (.k (.bool false)))]
 (q [fa 3 2 1,fa 4 1 3,l 5 false 1 4,o 6 (.bin .eql .slice (.t 5) (.k (.aq))),v 7 6,g 8 (.jk 2 (.t 1)) 7 true,g 9 (.jk 0 (.t 8)) 7 true,gl 10 false 1 9 7 true,gb 11 .eql (.t 10) (i 1) 7 true,pf 12 7 11,v 2 12]
 .ret))⟩
def Lh:cy:=⟨9,[.cell 2 true 4],(q [o 1 (.box (.t 0)),o 2 (.alloc zF)]
 (.seq (.cm [fa 3 0 1,w 4 true 2 3 1,c 5 200 [.t 4],fa 6 2 1,w 7 true 2 6 4,o 8 (.build zF [(0,2,(.t 5)),(2,2,(.t 7))]),s 4 2 8])
 .ret))⟩
def Lf:cy:=⟨8,[.cell 2 true 4],(q [o 1 (.box (.t 0)),o 2 (.alloc zF)]
 (q [fa 3 2 1,l 4 true 2 3,fa 5 0 1,l 6 true 2 5,c 7 119 [.t 4,.t 6],s 4 2 7]
 .ret))⟩
def Tc:cy:=⟨9,[.tmp 2,.tmp 3],(q [o 1 (.box (.t 0)),vi 2 0,o 3 (.mv (.k (.bool false)))]
 (.seq (.cm [fa 4 0 1,w 5 false 1 4 1,fa 6 1 1,w 7 false 1 6 3,o 8 (.bin .eql .slice (.t 7) (.k (.aq))),v 2 5,v 3 8])
 .ret))⟩
def K7:cy:=⟨9,[.cell 2 true 2],(q [o 1 (.box (.t 0)),o 2 (.alloc zI)]
 (.seq (q [fa 3 0 1,l 4 false 1 3,bi 5 .lss 4 0]
 (k 5 (q [l 6 true 2 1,c 7 200 [.t 6],s 2 2 7]
 .ret)))
 (q [l 8 true 2 1,s 2 2 8]
 .ret)))⟩
def K5:cy:=⟨9,[.cell 4 true 2],(q [o 2 (.box (.t 0)),o 3 (.box (.t 1)),o 4 (.alloc zI)]
 (.seq (.cm [w 5 true 2 2 2,w 6 true 2 3 1,c 7 200 [.t 6],c 8 121 [.t 5,.t 7],s 2 4 8])
 .ret))⟩
def K4:cy:=⟨51,[.tmp 4,.tmp 5],(q [o 4 (.mv (u 0)),o 5 (.mv (u 0))]
 (q [v 14 0,b 15 .and (.t 14) (u 4294967295),v 6 15]
 (q [v 16 0,b 17 .shr (.t 16) (u 32),v 7 17]
 (q [v 18 1,b 19 .and (.t 18) (u 4294967295),v 8 19]
 (q [v 20 1,b 21 .shr (.t 20) (u 32),v 9 21]
 (q [v 22 6,v 23 8,bt 24 .mul 22 23,v 10 24]
 (q [v 25 7,v 26 8,bt 27 .mul 25 26,v 28 10,b 29 .shr (.t 28) (u 32),bt 30 .add 27 29,v 11 30]
 (q [v 31 11,b 32 .and (.t 31) (u 4294967295),v 12 32]
 (q [v 33 11,b 34 .shr (.t 33) (u 32),v 13 34]
 (q [v 35 12,v 36 6,v 37 9,bt 38 .mul 36 37,bt 39 .add 35 38,v 12 39]
 (q [v 40 7,v 41 9,bt 42 .mul 40 41,v 43 13,bt 44 .add 42 43,v 45 12,b 46 .shr (.t 45) (u 32),bt 47 .add 44 46,v 4 47]
 (q [v 48 0,v 49 1,bt 50 .mul 48 49,v 5 50]
 .ret))))))))))))⟩
def K3:cy:=⟨10,[.tmp 2],(q [o 2 (.mv (u 0))]
 (.seq (q [v 3 0,bi 4 .lss 3 0]
 (k 4 (q [v 5 0,y 6 .neg 5,o 7 (.sJ .u64 (.t 6)),v 2 7]
 .ret)))
 (q [v 8 0,o 9 (.sJ .u64 (.t 8)),v 2 9]
 .ret)))⟩
def K0:cy:=⟨80,[.tmp 4],(q [o 4 (.mv (.k (.aq)))]
 (q [v 14 0,ln 15 14,v 16 1,ln 17 16,bt 18 .add 15 17,o 19 (.uN 1 8 [.int .u64 0] (.t 18) (.t 18)),v 5 19]
 (.seq (q [v 20 0,ln 21 20,vi 22 0]
 (.block 0 (.loop (q [bt 23 .lss 22 21]
 (.seq (.cond (.t 23) .skip
 (.exit 0))
 (.seq (.block 1 (q [v 24 22,ix 25 1 20 22,l 26 false 1 25,v 6 24,v 7 26]
 (q [o 8 (.mv (u 0))]
 (.seq (q [v 27 1,ln 28 27,vi 29 0]
 (.block 2 (.loop (q [bt 30 .lss 29 28]
 (.seq (.cond (.t 30) .skip
 (.exit 2))
 (.seq (.block 3 (q [v 31 29,ix 32 1 27 29,l 33 false 1 32,v 9 31,v 10 33]
 (q [v 35 7,v 36 10,c 37 261 [.t 35,.t 36],v 34 37,e 38 34 0,e 39 34 1,v 11 38,v 12 39]
 (q [o 13 (.mv (u 0))]
 (q [v 41 12,v 42 5,v 43 6,v 44 9,bt 45 .add 43 44,ix 46 1 42 45,l 47 false 1 46,c 48 267 [.t 41,.t 47,u 0],v 40 48,e 49 40 0,e 50 40 1,v 12 49,v 13 50]
 (q [v 51 11,v 52 13,bt 53 .add 51 52,v 11 53]
 (q [v 55 12,v 56 8,c 57 267 [.t 55,.t 56,u 0],v 54 57,e 58 54 0,e 59 54 1,v 12 58,v 13 59]
 (.cx [v 60 5,v 61 6,v 62 9,bt 63 .add 61 62,v 64 12,v 65 11,v 66 13,bt 67 .add 65 66,ix 68 1 60 63,s 1 68 64,v 8 67]))))))))
 (.cx [bi 69 .add 29 1,v 29 69])))))))
 (.cx [v 70 5,v 71 6,v 72 1,ln 73 72,bt 74 .add 71 73,v 75 8,ix 76 1 70 74,s 1 76 75])))))
 (.cx [bi 77 .add 22 1,v 22 77])))))))
 (q [v 78 5,c 79 268 [.t 78],v 4 79]
 .ret))))⟩
def qF:cy:=⟨137,[.tmp 4,.tmp 5],(q [o 4 (.mv (.k (.aq))),o 5 (.mv (.k (.aq)))]
 (.seq (q [v 16 0,v 17 1,c 18 205 [.t 16,.t 17],bi 19 .lss 18 0]
 (k 19 (q [v 20 0,o 4 (.mv (.k (.aq))),v 5 20]
 .ret)))
 (.seq (q [v 21 1,ln 22 21,bi 23 .eql 22 1]
 (k 23 (q [v 24 0,ln 25 24,o 26 (.uN 1 8 [.int .u64 0] (.t 25) (.t 25)),v 6 26]
 (q [o 7 (.mv (u 0))]
 (.seq (q [v 27 0,ln 28 27,bi 29 .sub 28 1,v 8 29]
 (.block 0 (.loop (.seq (q [v 30 8,bi 31 .geq 30 0]
 (.cond (.t 31) .skip
 (.exit 0)))
 (.seq (.block 1 (.cm [v 35 6,v 36 8,v 37 7,v 38 0,v 39 8,ix 40 1 38 39,w 41 false 1 40 6,v 42 1,o 43 (.iG 1 (.t 42) (i 0)),w 44 false 1 43 9,c 45 300 [.t 37,.t 41,.t 44],v 34 45,e 46 34 0,e 47 34 1,ix 48 1 35 36,s 1 48 46,v 7 47]))
 (.cx [v 32 8,bi 33 .sub 32 1,v 8 33]))))))
 (q [v 49 6,c 50 268 [.t 49],v 51 7,o 52 (.cL 1 1 [.int .u64 0] [(0,1,(.t 51))]),c 53 268 [.t 52],v 4 50,v 5 53]
 .ret))))))
 (q [v 54 1,v 55 1,ln 56 55,bi 57 .sub 56 1,ix 58 1 54 57,l 59 false 1 58,c 60 301 [.t 59],v 9 60]
 (q [v 61 1,v 62 9,c 63 302 [.t 61,.t 62],c 64 268 [.t 63],v 10 64]
 (q [v 65 0,v 66 9,c 67 302 [.t 65,.t 66],v 11 67]
 (q [v 68 10,ln 69 68,v 12 69]
 (q [v 70 0,ln 71 70,v 72 12,bt 73 .sub 71 72,bi 74 .add 73 1,o 75 (.uN 1 8 [.int .u64 0] (.t 74) (.t 74)),v 13 75]
 (.seq (q [v 76 0,ln 77 76,v 78 12,bt 79 .sub 77 78,v 14 79]
 (.block 2 (.loop (.seq (q [v 80 14,bi 81 .geq 80 0]
 (.cond (.t 81) .skip
 (.exit 2)))
 (.seq (.block 3 (.cx [v 84 13,v 85 14,v 86 11,v 87 14,v 88 14,v 89 12,bt 90 .add 88 89,bi 91 .add 90 1,o 92 (.sl 1 (.t 86) (some (.t 87)) (some (.t 91))),v 93 10,c 94 303 [.t 92,.t 93],ix 95 1 84 85,s 1 95 94]))
 (.cx [v 82 14,bi 83 .sub 82 1,v 14 83]))))))
 (.seq (q [v 96 12,vi 97 0]
 (.block 4 (.loop (q [bt 98 .lss 97 96]
 (.seq (.cond (.t 98) .skip
 (.exit 4))
 (.seq (.block 5 (q [v 99 97,v 15 99]
 (q [v 100 11,v 101 15,ix 102 1 100 101,l 103 false 1 102,v 104 9,bt 105 .shr 103 104,ix 106 1 100 101,s 1 106 105]
 (q [v 107 9,bi 108 .gtr 107 0,v 109 108,g 110 (m 15) 109 true,gb 111 .add (.t 110) (i 1) 109 true,g 112 (m 11) 109 true,g 113 (.len .slice (.t 112)) 109 true,gb 114 .lss (.t 111) (.t 113) 109 true,pf 115 109 114]
 (k 115 (.cm [v 116 11,v 117 15,ix 118 1 116 117,w 119 false 1 118 3,v 120 11,v 121 15,bi 122 .add 121 1,ix 123 1 120 122,w 124 false 1 123 8,v 125 9,b 126 .sub (i 64) (.t 125),bt 127 .shl 124 126,bt 128 .or 119 127,ix 129 1 116 117,s 1 129 128]))))))
 (.cx [bi 130 .add 97 1,v 97 130])))))))
 (.seq (.cm [v 131 13,c 132 268 [.t 131],v 133 11,v 134 12,o 135 (.sl 1 (.t 133) none (some (.t 134))),c 136 268 [.t 135],v 4 132,v 5 136])
 .ret)))))))))))⟩
def KZ:cy:=⟨25,[.tmp 2],(q [vi 2 0]
 (.seq (q [v 3 0,b 4 .geq (.t 3) (u 4294967296)]
 (k 4 (q [v 5 0,b 6 .shr (.t 5) (u 32),v 0 6]
 (.cx [vi 2 32]))))
 (.seq (q [v 7 0,b 8 .geq (.t 7) (u 65536)]
 (k 8 (q [v 9 0,b 10 .shr (.t 9) (u 16),v 0 10]
 (.cx [v 11 2,bi 12 .add 11 16,v 2 12]))))
 (.seq (q [v 13 0,b 14 .geq (.t 13) (u 256)]
 (k 14 (q [v 15 0,b 16 .shr (.t 15) (u 8),v 0 16]
 (.cx [v 17 2,bi 18 .add 17 8,v 2 18]))))
 (q [v 19 2,v 20 0,o 21 (.sJ .u8 (.t 20)),o 22 (.idxs (.k (.str [0,1,2,2,3,3,3,3,4,4,4,4,4,4,4,4,5,5,5,5,5,5,5,5,5,5,5,5,5,5,5,5,6,6,6,6,6,6,6,6,6,6,6,6,6,6,6,6,6,6,6,6,6,6,6,6,6,6,6,6,6,6,6,6,7,7,7,7,7,7,7,7,7,7,7,7,7,7,7,7,7,7,7,7,7,7,7,7,7,7,7,7,7,7,7,7,7,7,7,7,7,7,7,7,7,7,7,7,7,7,7,7,7,7,7,7,7,7,7,7,7,7,7,7,7,7,7,7,8,8,8,8,8,8,8,8,8,8,8,8,8,8,8,8,8,8,8,8,8,8,8,8,8,8,8,8,8,8,8,8,8,8,8,8,8,8,8,8,8,8,8,8,8,8,8,8,8,8,8,8,8,8,8,8,8,8,8,8,8,8,8,8,8,8,8,8,8,8,8,8,8,8,8,8,8,8,8,8,8,8,8,8,8,8,8,8,8,8,8,8,8,8,8,8,8,8,8,8,8,8,8,8,8,8,8,8,8,8,8,8,8,8,8,8,8,8,8,8,8,8,8,8,8,8,8,8])) (.t 21)),o 23 (.sJ .i64 (.t 22)),bt 24 .add 19 23,v 2 24]
 .ret)))))⟩
def EE:cy:=⟨21,[.tmp 2],(q [o 2 (.mv (.k (.aq)))]
 (q [v 4 0,ln 5 4,v 3 5]
 (.seq (.block 0 (.loop (.seq (q [v 6 3,bi 7 .gtr 6 0,v 8 7,g 9 (m 0) 8 true,g 10 (m 3) 8 true,gb 11 .sub (.t 10) (i 1) 8 true,g 12 (.iG 1 (.t 9) (.t 11)) 8 true,gl 13 false 1 12 8 true,gb 14 .eql (.t 13) (u 0) 8 true,pf 15 8 14]
 (.cond (.t 15) .skip
 (.exit 0)))
 (.block 1 (.cx [v 16 3,bi 17 .sub 16 1,v 3 17])))))
 (q [v 18 0,v 19 3,o 20 (.sl 1 (.t 18) none (some (.t 19))),v 2 20]
 .ret))))⟩
def Tb:cy:=⟨19,[.tmp 4],(q [vi 4 0]
 (.seq (q [v 6 0,ln 7 6,vi 8 0]
 (.block 0 (.loop (q [bt 9 .lss 8 7]
 (.seq (.cond (.t 9) .skip
 (.exit 0))
 (.seq (.block 1 (q [v 10 8,v 5 10]
 (q [v 11 1,v 12 0,v 13 5,ix 14 1 12 13,l 15 false 1 14,o 16 (.gQ (.t 11) [.t 15])]
 (k 16 (q [v 17 5,v 4 17]
 .ret)))))
 (.cx [bi 18 .add 8 1,v 8 18])))))))
 (q [vi 4 (-1)]
 .ret)))⟩
def Ta:cy:=⟨53,[],(q [v 10 1,bi 11 .add 10 1,v 8 11]
 (.block 0 (.loop (.seq (q [v 12 8,v 13 2,bt 14 .lss 12 13]
 (.cond (.t 14) .skip
 (.exit 0)))
 (.seq (.block 1 (q [v 17 8,v 9 17]
 (.block 2 (.loop (.seq (.seq (.cm [v 18 9,v 19 1,bt 20 .gtr 18 19,v 21 20,g 22 (m 3) 21 true,g 23 (m 0) 21 true,g 24 (m 9) 21 true,g 25 (.iG 1 (.t 23) (.t 24)) 21 true,x 26 false 1 25 21 true 8,g 27 (m 0) 21 true,g 28 (m 9) 21 true,gb 29 .sub (.t 28) (i 1) 21 true,g 30 (.iG 1 (.t 27) (.t 29)) 21 true,x 31 false 1 30 21 true 13,g 32 (.gQ (.t 22) [.t 26,.t 31]) 21 true,gb 33 .lss (.t 32) (i 0) 21 true,pf 34 21 33])
 (.cond (.t 34) .skip
 (.exit 2)))
 (.seq (.block 3 (.cm [v 37 0,v 38 9,v 39 0,v 40 9,bi 41 .sub 40 1,v 42 0,v 43 9,bi 44 .sub 43 1,ix 45 1 42 44,w 46 false 1 45 9,v 47 0,v 48 9,ix 49 1 47 48,w 50 false 1 49 13,ix 51 1 37 38,s 1 51 46,ix 52 1 39 41,s 1 52 50]))
 (.cx [v 35 9,bi 36 .sub 35 1,v 9 36])))))))
 (.cx [v 15 8,bi 16 .add 15 1,v 8 16]))))))⟩
def SZ:cy:=⟨220,[],(.seq (q [v 25 2,v 26 1,bt 27 .sub 25 26,bi 28 .eql 27 1]
 (k 28 (q [v 29 2,v 10 29]
 (q [v 30 3,v 11 30]
 (.seq (.block 0 (.loop (.seq (q [v 31 10,v 32 11,bt 33 .lss 31 32]
 (.cond (.t 33) .skip
 (.exit 0)))
 (.block 1 (q [v 34 10,v 35 11,bt 36 .add 34 35,o 37 (.sJ .u64 (.t 36)),b 38 .shr (.t 37) (u 1),o 39 (.sJ .i64 (.t 38)),v 12 39]
 (.seq (.cm [v 40 4,v 41 0,v 42 12,ix 43 1 41 42,w 44 false 1 43 4,v 45 0,v 46 1,ix 47 1 45 46,w 48 false 1 47 8,o 49 (.gQ (.t 40) [.t 44,.t 48]),bi 50 .lss 49 0])
 (.cond (.t 50) (.cx [v 51 12,bi 52 .add 51 1,v 10 52])
 (.cx [v 53 12,v 11 53]))))))))
 (.seq (q [v 54 1,v 13 54]
 (.block 2 (.loop (.seq (q [v 55 13,v 56 10,bi 57 .sub 56 1,bt 58 .lss 55 57]
 (.cond (.t 58) .skip
 (.exit 2)))
 (.seq (.block 3 (.cm [v 61 0,v 62 13,v 63 0,v 64 13,bi 65 .add 64 1,v 66 0,v 67 13,bi 68 .add 67 1,ix 69 1 66 68,w 70 false 1 69 9,v 71 0,v 72 13,ix 73 1 71 72,w 74 false 1 73 13,ix 75 1 61 62,s 1 75 70,ix 76 1 63 65,s 1 76 74]))
 (.cx [v 59 13,bi 60 .add 59 1,v 13 60]))))))
 .ret))))))
 (.seq (q [v 77 3,v 78 2,bt 79 .sub 77 78,bi 80 .eql 79 1]
 (k 80 (q [v 81 1,v 14 81]
 (q [v 82 2,v 15 82]
 (.seq (.block 4 (.loop (.seq (q [v 83 14,v 84 15,bt 85 .lss 83 84]
 (.cond (.t 85) .skip
 (.exit 4)))
 (.block 5 (q [v 86 14,v 87 15,bt 88 .add 86 87,o 89 (.sJ .u64 (.t 88)),b 90 .shr (.t 89) (u 1),o 91 (.sJ .i64 (.t 90)),v 16 91]
 (.seq (.cm [v 92 4,v 93 0,v 94 2,ix 95 1 93 94,w 96 false 1 95 4,v 97 0,v 98 16,ix 99 1 97 98,w 100 false 1 99 8,o 101 (.gQ (.t 92) [.t 96,.t 100]),bi 102 .lss 101 0,y 103 .not 102])
 (.cond (.t 103) (.cx [v 104 16,bi 105 .add 104 1,v 14 105])
 (.cx [v 106 16,v 15 106]))))))))
 (.seq (q [v 107 2,v 17 107]
 (.block 6 (.loop (.seq (q [v 108 17,v 109 14,bt 110 .gtr 108 109]
 (.cond (.t 110) .skip
 (.exit 6)))
 (.seq (.block 7 (.cm [v 113 0,v 114 17,v 115 0,v 116 17,bi 117 .sub 116 1,v 118 0,v 119 17,bi 120 .sub 119 1,ix 121 1 118 120,w 122 false 1 121 9,v 123 0,v 124 17,ix 125 1 123 124,w 126 false 1 125 13,ix 127 1 113 114,s 1 127 122,ix 128 1 115 117,s 1 128 126]))
 (.cx [v 111 17,bi 112 .sub 111 1,v 17 112]))))))
 .ret))))))
 (q [v 129 1,v 130 3,bt 131 .add 129 130,o 132 (.sJ .u64 (.t 131)),b 133 .shr (.t 132) (u 1),o 134 (.sJ .i64 (.t 133)),v 18 134]
 (q [v 135 18,v 136 2,bt 137 .add 135 136,v 19 137]
 (q [vi 20 0,vi 21 0]
 (.seq (q [v 138 2,v 139 18,bt 140 .gtr 138 139]
 (.cond (.t 140) (q [v 141 19,v 142 3,bt 143 .sub 141 142,v 20 143]
 (.cx [v 144 18,v 21 144]))
 (q [v 145 1,v 20 145]
 (.cx [v 146 2,v 21 146]))))
 (q [v 147 19,bi 148 .sub 147 1,v 22 148]
 (.seq (.block 8 (.loop (.seq (q [v 149 20,v 150 21,bt 151 .lss 149 150]
 (.cond (.t 151) .skip
 (.exit 8)))
 (.block 9 (q [v 152 20,v 153 21,bt 154 .add 152 153,o 155 (.sJ .u64 (.t 154)),b 156 .shr (.t 155) (u 1),o 157 (.sJ .i64 (.t 156)),v 23 157]
 (.seq (.cm [v 158 4,v 159 0,v 160 22,v 161 23,bt 162 .sub 160 161,ix 163 1 159 162,w 164 false 1 163 6,v 165 0,v 166 23,ix 167 1 165 166,w 168 false 1 167 10,o 169 (.gQ (.t 158) [.t 164,.t 168]),bi 170 .lss 169 0,y 171 .not 170])
 (.cond (.t 171) (.cx [v 172 23,bi 173 .add 172 1,v 20 173])
 (.cx [v 174 23,v 21 174]))))))))
 (q [v 175 19,v 176 20,bt 177 .sub 175 176,v 24 177]
 (.seq (q [v 178 20,v 179 2,bt 180 .lss 178 179,v 181 180,g 182 (m 2) 181 true,g 183 (m 24) 181 true,gb 184 .lss (.t 182) (.t 183) 181 true,pf 185 181 184]
 (k 185 (.cx [v 186 0,v 187 20,v 188 2,v 189 24,v 190 4,c 191 304 [.t 186,.t 187,.t 188,.t 189,.t 190]])))
 (.seq (q [v 192 1,v 193 20,bt 194 .lss 192 193,v 195 194,g 196 (m 20) 195 true,g 197 (m 18) 195 true,gb 198 .lss (.t 196) (.t 197) 195 true,pf 199 195 198]
 (k 199 (.cx [v 200 0,v 201 1,v 202 20,v 203 18,v 204 4,c 205 275 [.t 200,.t 201,.t 202,.t 203,.t 204]])))
 (q [v 206 18,v 207 24,bt 208 .lss 206 207,v 209 208,g 210 (m 24) 209 true,g 211 (m 3) 209 true,gb 212 .lss (.t 210) (.t 211) 209 true,pf 213 209 212]
 (k 213 (.cx [v 214 0,v 215 18,v 216 24,v 217 3,v 218 4,c 219 275 [.t 214,.t 215,.t 216,.t 217,.t 218]]))))))))))))))⟩
def sk:cy:=⟨135,[.tmp 6,.tmp 7],(q [o 6 (.mv (u 0)),o 7 (.mv (u 0))]
 (.seq (q [v 19 2,b 20 .eql (.t 19) (u 0)]
 (k 20 (.cx [o 21 (.bad),n (.bad)])))
 (.seq (q [v 22 2,v 23 0,bt 24 .leq 22 23]
 (k 24 (.cx [o 25 (.bad),n (.bad)])))
 (.seq (q [v 26 0,b 27 .eql (.t 26) (u 0)]
 (k 27 (.seq (.cm [v 28 1,v 29 2,bt 30 .quo 28 29,v 31 1,v 32 2,bt 33 .rem 31 32,v 6 30,v 7 33])
 .ret)))
 (q [v 34 2,c 35 301 [.t 34],o 36 (.sJ .u64 (.t 35)),v 8 36]
 (q [v 37 2,v 38 8,bt 39 .shl 37 38,v 2 39]
 (q [v 40 2,b 41 .shr (.t 40) (u 32),v 9 41]
 (q [v 42 2,b 43 .and (.t 42) (u 4294967295),v 10 43]
 (q [v 44 0,v 45 8,bt 46 .shl 44 45,v 47 1,v 48 8,b 49 .sub (u 64) (.t 48),bt 50 .shr 47 49,bt 51 .or 46 50,v 11 51]
 (q [v 52 1,v 53 8,bt 54 .shl 52 53,v 12 54]
 (q [v 55 12,b 56 .shr (.t 55) (u 32),v 13 56]
 (q [v 57 12,b 58 .and (.t 57) (u 4294967295),v 14 58]
 (q [v 59 11,v 60 9,bt 61 .quo 59 60,v 15 61]
 (q [v 62 11,v 63 15,v 64 9,bt 65 .mul 63 64,bt 66 .sub 62 65,v 16 66]
 (.seq (.block 0 (.loop (.seq (q [v 67 15,b 68 .geq (.t 67) (u 4294967296),v 69 68,g 70 (m 15) 69 false,g 71 (m 10) 69 false,gb 72 .mul (.t 70) (.t 71) 69 false,g 73 (m 16) 69 false,gb 74 .mul (u 4294967296) (.t 73) 69 false,g 75 (m 13) 69 false,gb 76 .add (.t 74) (.t 75) 69 false,gb 77 .gtr (.t 72) (.t 76) 69 false,pt 78 69 77]
 (.cond (.t 78) .skip
 (.exit 0)))
 (.block 1 (q [v 79 15,b 80 .sub (.t 79) (u 1),v 15 80]
 (q [v 81 16,v 82 9,bt 83 .add 81 82,v 16 83]
 (q [v 84 16,b 85 .geq (.t 84) (u 4294967296)]
 (k 85 (.exit 0)))))))))
 (q [v 86 11,b 87 .mul (.t 86) (u 4294967296),v 88 13,bt 89 .add 87 88,v 90 15,v 91 2,bt 92 .mul 90 91,bt 93 .sub 89 92,v 17 93]
 (q [v 94 17,v 95 9,bt 96 .quo 94 95,v 18 96]
 (q [v 97 17,v 98 18,v 99 9,bt 100 .mul 98 99,bt 101 .sub 97 100,v 16 101]
 (.seq (.block 2 (.loop (.seq (q [v 102 18,b 103 .geq (.t 102) (u 4294967296),v 104 103,g 105 (m 18) 104 false,g 106 (m 10) 104 false,gb 107 .mul (.t 105) (.t 106) 104 false,g 108 (m 16) 104 false,gb 109 .mul (u 4294967296) (.t 108) 104 false,g 110 (m 14) 104 false,gb 111 .add (.t 109) (.t 110) 104 false,gb 112 .gtr (.t 107) (.t 111) 104 false,pt 113 104 112]
 (.cond (.t 113) .skip
 (.exit 2)))
 (.block 3 (q [v 114 18,b 115 .sub (.t 114) (u 1),v 18 115]
 (q [v 116 16,v 117 9,bt 118 .add 116 117,v 16 118]
 (q [v 119 16,b 120 .geq (.t 119) (u 4294967296)]
 (k 120 (.exit 2)))))))))
 (q [v 121 15,b 122 .mul (.t 121) (u 4294967296),v 123 18,bt 124 .add 122 123,v 125 17,b 126 .mul (.t 125) (u 4294967296),v 127 14,bt 128 .add 126 127,v 129 18,v 130 2,bt 131 .mul 129 130,bt 132 .sub 128 131,v 133 8,bt 134 .shr 132 133,v 6 124,v 7 134]
 .ret))))))))))))))))))))⟩
def KU:cy:=⟨6,[.tmp 2],(q [vi 2 0]
 (q [v 3 0,c 4 266 [.t 3],b 5 .sub (i 64) (.t 4),v 2 5]
 .ret))⟩
def KT:cy:=⟨40,[.tmp 4],(q [o 4 (.mv (.k (.aq)))]
 (q [v 8 0,ln 9 8,bi 10 .add 9 1,o 11 (.uN 1 8 [.int .u64 0] (.t 10) (.t 10)),v 5 11]
 (.seq (q [v 12 0,ln 13 12,vi 14 0]
 (.block 0 (.loop (q [bt 15 .lss 14 13]
 (.seq (.cond (.t 15) .skip
 (.exit 0))
 (.seq (.block 1 (q [v 16 14,ix 17 1 12 14,l 18 false 1 17,v 6 16,v 7 18]
 (.seq (.cm [v 19 5,v 20 6,ix 21 1 19 20,w 22 false 1 21 3,v 23 7,v 24 1,bt 25 .shl 23 24,bt 26 .or 22 25,ix 27 1 19 20,s 1 27 26])
 (q [v 28 1,bi 29 .gtr 28 0]
 (k 29 (.cx [v 30 5,v 31 6,bi 32 .add 31 1,v 33 7,v 34 1,b 35 .sub (i 64) (.t 34),bt 36 .shr 33 35,ix 37 1 30 32,s 1 37 36]))))))
 (.cx [bi 38 .add 14 1,v 14 38])))))))
 (q [v 39 5,v 4 39]
 .ret))))⟩
def rD:cy:=⟨186,[.tmp 4],(q [o 4 (.mv (u 0))]
 (q [v 19 1,ln 20 19,v 5 20]
 (q [o 6 (.mv (u 0)),o 7 (.mv (u 0))]
 (q [o 8 (.mv (u 0))]
 (.seq (.seq (.cm [v 21 0,v 22 5,ix 23 1 21 22,w 24 false 1 23 3,v 25 1,v 26 5,bi 27 .sub 26 1,ix 28 1 25 27,w 29 false 1 28 8,bt 30 .geq 24 29])
 (.cond (.t 30) (q [o 6 (.mv (u 18446744073709551615))]
 (.cm [v 32 0,v 33 5,bi 34 .sub 33 1,ix 35 1 32 34,w 36 false 1 35 4,v 37 1,v 38 5,bi 39 .sub 38 1,ix 40 1 37 39,w 41 false 1 40 9,c 42 267 [.t 36,.t 41,u 0],v 31 42,e 43 31 0,e 44 31 1,v 7 43,v 8 44]))
 (.cm [v 46 0,v 47 5,ix 48 1 46 47,w 49 false 1 48 3,v 50 0,v 51 5,bi 52 .sub 51 1,ix 53 1 50 52,w 54 false 1 53 8,v 55 1,v 56 5,bi 57 .sub 56 1,ix 58 1 55 57,w 59 false 1 58 13,c 60 300 [.t 49,.t 54,.t 59],v 45 60,e 61 45 0,e 62 45 1,v 6 61,v 7 62])))
 (.seq (.block 0 (.loop (.seq (q [v 63 8,b 64 .eql (.t 63) (u 0)]
 (.cond (.t 64) .skip
 (.exit 0)))
 (.block 1 (q [v 66 6,v 67 1,v 68 5,bi 69 .sub 68 2,ix 70 1 67 69,l 71 false 1 70,c 72 261 [.t 66,.t 71],v 65 72,e 73 65 0,e 74 65 1,v 9 73,v 10 74]
 (.seq (q [v 75 9,v 76 7,bt 77 .lss 75 76,v 78 77,g 79 (m 9) 78 false,g 80 (m 7) 78 false,gb 81 .eql (.t 79) (.t 80) 78 false,g 82 (m 81) 78 false,g 83 (m 10) 82 true,g 84 (m 0) 82 true,g 85 (m 5) 82 true,gb 86 .sub (.t 85) (i 2) 82 true,g 87 (.iG 1 (.t 84) (.t 86)) 82 true,gl 88 false 1 87 82 true,gb 89 .leq (.t 83) (.t 88) 82 true,g 90 (.pick (.t 82) (.t 89) (.k (.bool false))) 78 false,pt 91 78 90]
 (k 91 (.exit 0)))
 (q [v 92 6,b 93 .sub (.t 92) (u 1),v 6 93]
 (.cx [v 95 7,v 96 1,v 97 5,bi 98 .sub 97 1,ix 99 1 96 98,l 100 false 1 99,c 101 267 [.t 95,.t 100,u 0],v 94 101,e 102 94 0,e 103 94 1,v 7 102,v 8 103]))))))))
 (q [o 11 (.mv (u 0)),o 12 (.mv (u 0))]
 (.seq (q [v 104 5,vi 105 0]
 (.block 2 (.loop (q [bt 106 .lss 105 104]
 (.seq (.cond (.t 106) .skip
 (.exit 2))
 (.seq (.block 3 (q [v 107 105,v 13 107]
 (q [v 109 6,v 110 1,v 111 13,ix 112 1 110 111,l 113 false 1 112,c 114 261 [.t 109,.t 113],v 108 114,e 115 108 0,e 116 108 1,v 14 115,v 15 116]
 (q [o 16 (.mv (u 0))]
 (q [v 118 15,v 119 12,c 120 267 [.t 118,.t 119,u 0],v 117 120,e 121 117 0,e 122 117 1,v 15 121,v 16 122]
 (q [v 123 14,v 124 16,bt 125 .add 123 124,v 12 125]
 (.cx [v 127 0,v 128 13,v 129 0,v 130 13,ix 131 1 129 130,l 132 false 1 131,v 133 15,v 134 11,c 135 269 [.t 132,.t 133,.t 134],v 126 135,e 136 126 0,e 137 126 1,ix 138 1 127 128,s 1 138 136,v 11 137])))))))
 (.cx [bi 139 .add 105 1,v 105 139])))))))
 (q [v 141 0,v 142 5,v 143 0,v 144 5,ix 145 1 143 144,l 146 false 1 145,v 147 12,v 148 11,c 149 269 [.t 146,.t 147,.t 148],v 140 149,e 150 140 0,e 151 140 1,ix 152 1 141 142,s 1 152 150,v 11 151]
 (.seq (q [v 153 11,b 154 .eql (.t 153) (u 0)]
 (k 154 (q [v 155 6,v 4 155]
 .ret)))
 (q [o 17 (.mv (u 0))]
 (.seq (q [v 156 5,vi 157 0]
 (.block 4 (.loop (q [bt 158 .lss 157 156]
 (.seq (.cond (.t 158) .skip
 (.exit 4))
 (.seq (.block 5 (q [v 159 157,v 18 159]
 (.cm [v 161 0,v 162 18,v 163 0,v 164 18,ix 165 1 163 164,w 166 false 1 165 5,v 167 1,v 168 18,ix 169 1 167 168,w 170 false 1 169 9,v 171 17,c 172 267 [.t 166,.t 170,.t 171],v 160 172,e 173 160 0,e 174 160 1,ix 175 1 161 162,s 1 175 173,v 17 174])))
 (.cx [bi 176 .add 157 1,v 157 176])))))))
 (q [v 177 0,v 178 5,ix 179 1 177 178,l 180 false 1 179,v 181 17,bt 182 .add 180 181,ix 183 1 177 178,s 1 183 182]
 (q [v 184 6,b 185 .sub (.t 184) (u 1),v 4 185]
 .ret))))))))))))))⟩
def SY:cy:=⟨58,[],(q [v 12 2,v 13 1,bt 14 .sub 12 13,v 10 14]
 (q [v 15 3,v 16 2,bt 17 .sub 15 16,v 11 17]
 (.seq (.block 0 (.loop (.seq (q [v 18 10,v 19 11,bt 20 .neq 18 19]
 (.cond (.t 20) .skip
 (.exit 0)))
 (.block 1 (q [v 21 10,v 22 11,bt 23 .gtr 21 22]
 (.cond (.t 23) (q [v 24 0,v 25 2,v 26 10,bt 27 .sub 25 26,v 28 2,v 29 11,v 30 4,c 31 326 [.t 24,.t 27,.t 28,.t 29,.t 30]]
 (.cx [v 32 10,v 33 11,bt 34 .sub 32 33,v 10 34]))
 (q [v 35 0,v 36 2,v 37 10,bt 38 .sub 36 37,v 39 2,v 40 11,bt 41 .add 39 40,v 42 10,bt 43 .sub 41 42,v 44 10,v 45 4,c 46 326 [.t 35,.t 38,.t 43,.t 44,.t 45]]
 (.cx [v 47 11,v 48 10,bt 49 .sub 47 48,v 11 49]))))))))
 (.cx [v 50 0,v 51 2,v 52 10,bt 53 .sub 51 52,v 54 2,v 55 10,v 56 4,c 57 326 [.t 50,.t 53,.t 54,.t 55,.t 56]]))))⟩
def SX:cy:=⟨38,[],(q [vi 10 0]
 (.block 0 (.loop (.seq (q [v 11 10,v 12 3,bt 13 .lss 11 12]
 (.cond (.t 13) .skip
 (.exit 0)))
 (.seq (.block 1 (.cm [v 16 0,v 17 1,v 18 10,bt 19 .add 17 18,v 20 0,v 21 2,v 22 10,bt 23 .add 21 22,v 24 0,v 25 2,v 26 10,bt 27 .add 25 26,ix 28 1 24 27,w 29 false 1 28 13,v 30 0,v 31 1,v 32 10,bt 33 .add 31 32,ix 34 1 30 33,w 35 false 1 34 19,ix 36 1 16 19,s 1 36 29,ix 37 1 20 23,s 1 37 35]))
 (.cx [v 14 10,bi 15 .add 14 1,v 10 15]))))))⟩
end Go.Ae.C
